/-
  do: no world; a kind that there is not.
-/
import Derived.Test.Qxb6500716aDa
namespace Go.Proofs.Qxb6500716a
open Go.RowKit Go.Maps
set_option linter.unusedSimpArgs false
set_option linter.unusedVariables false
set_option maxRecDepth 20000
set_option maxHeartbeats 4000000
theorem do_none (d : Nat) (m : DM) (D : Dk) (o : Opr) (v : Value) (lab : Nat → Nat) (w : World) (h : DkAt w lab d m D) (hv : Ints w lab v o.l) (hK : o.K ≠ 0) (hW : D.W = none) :
    Calls Try.prog 12 #[.pointer (some ⟨d, 0, none⟩), .agg #[.int .i64 ((o).K), .int .i64 ((o).A), .int .i64 ((o).B), .int .i64 ((o).C), .int .i64 ((o).D), .int .i64 ((o).E), v]] w (doPost lab d (D.no, 1, []) w) := by
  obtain ⟨vo, vc, hvv, -⟩ := hv.ex
  have HV := hid hv
  have HD := hid h
  have hdl := h.b.lt
  have e3 : w.cell? ⟨d, 3, none⟩ = some (.bool D.ask) := h.b.is 3 (by omega)
  have y3 := h.b.fz 3 (by omega)
  have hw := h.wd
  rw [hW] at hw
  have e0 : w.cell? ⟨d, 0, none⟩ = some (.pointer none) := by
    rw [h.b.is 0 (by omega)]
    show some m.fv = _
    rw [hw.1]
  have dk : (o.K == 0) = false := by simp [hK]
  clear h hv hw hW hK
  obtain ⟨K, A, B, C, Dd, E, l⟩ := o
  simp only at *
  subst hvv
  generalize hln : l.length = ln at *
  clear hln
  go_enter Try.func12, Try.ntmps12
  go_wp2
  refine bodyPost_ret (v := .agg #[.int .u8 (1), .slice none 0 0]) (by simp [results, Try.results12, go_sem, ↓IntWalk.iteOmega, Nat.add_zero]) rfl ?_
  obtain ⟨l9, hS⟩ := do_start (o := ⟨K, A, B, C, Dd, E, l⟩) HD.out HV.out (.int .u8 1) (.slice none 0 0) ⟨rfl, rfl⟩ _ rfl
  exact do_fin' hS 1 _ [] (Ints.nil _ _)
theorem do_bad (d : Nat) (m : DM) (D : Dk) (o : Opr) (v : Value) (lab : Nat → Nat) (w : World) (h : DkAt w lab d m D) (hv : Ints w lab v o.l) (hK : o.K < 0 ∨ 7 < o.K) (X : Wd) (hW : D.W = some X) :
    Calls Try.prog 12 #[.pointer (some ⟨d, 0, none⟩), .agg #[.int .i64 ((o).K), .int .i64 ((o).A), .int .i64 ((o).B), .int .i64 ((o).C), .int .i64 ((o).D), .int .i64 ((o).E), v]] w (doPost lab d (D.no, 2, []) w) := by
  obtain ⟨vo, vc, hvv, -⟩ := hv.ex
  have HV := hid hv
  have HD := hid h
  have hdl := h.b.lt
  have e3 : w.cell? ⟨d, 3, none⟩ = some (.bool D.ask) := h.b.is 3 (by omega)
  have y3 := h.b.fz 3 (by omega)
  have hw := h.wd
  rw [hW] at hw
  obtain ⟨fb, M, N, n, f1, f2, f3, hF, hT, hP⟩ := hw
  have e0 : w.cell? ⟨d, 0, none⟩ = some (.pointer (some ⟨fb, 0, none⟩)) := by
    rw [h.b.is 0 (by omega)]
    show some m.fv = _
    rw [f1]
  have d0 : (o.K == 0) = false := by simp; omega
  have d1 : (o.K == 1) = false := by simp; omega
  have d2 : (o.K == 2) = false := by simp; omega
  have d3 : (o.K == 3) = false := by simp; omega
  have d4 : (o.K == 4) = false := by simp; omega
  have d5 : (o.K == 5) = false := by simp; omega
  have d6 : (o.K == 6) = false := by simp; omega
  have d7 : (o.K == 7) = false := by simp; omega
  clear h hv hF hT hP hW hK f1 f2 f3
  obtain ⟨K, A, B, C, Dd, E, l⟩ := o
  simp only at *
  subst hvv
  generalize hln : l.length = ln at *
  clear hln
  go_enter Try.func12, Try.ntmps12
  go_wp2
  refine bodyPost_ret (v := .agg #[.int .u8 (2), .slice none 0 0]) (by simp [results, Try.results12, go_sem, ↓IntWalk.iteOmega, Nat.add_zero]) rfl ?_
  obtain ⟨l9, hS⟩ := do_start (o := ⟨K, A, B, C, Dd, E, l⟩) HD.out HV.out (.int .u8 2) (.slice none 0 0) ⟨rfl, rfl⟩ _ rfl
  exact do_fin' hS 2 _ [] (Ints.nil _ _)
theorem ints1 {w : World} {l : Nat → Nat} (x : Int) (hx : I64 x) : Ints (w.alloc (Obj.cells #[.int .i64 (x)] 3)) (upd l w.heap.size 0) (.slice (some ⟨w.heap.size, 0, none⟩) 1 1) [x] := by
  refine ⟨⟨_, 1, rfl, Nat.le_refl _⟩, by simp, fun c hc => by simp at hc; rw [hc]; exact hx, fun j c hj => ?_⟩
  have hj2 := (List.getElem?_eq_some_iff.1 hj).1
  simp at hj2
  subst hj2
  simp at hj
  subst hj
  exact ⟨w.heap.size, 0, 1, 1, rfl, by simp, Or.inl (upd_at _ _ _), by simp [go_sem, ↓IntWalk.iteOmega]⟩
theorem ints2 {w : World} {l : Nat → Nat} (x y : Int) (hx : I64 x) (hy : I64 y) : Ints (w.alloc (Obj.cells #[.int .i64 (x), .int .i64 (y)] 3)) (upd l w.heap.size 0) (.slice (some ⟨w.heap.size, 0, none⟩) 2 2) [x, y] := by
  refine ⟨⟨_, 2, rfl, Nat.le_refl _⟩, by simp, fun c hc => ?_, fun j c hj => ?_⟩
  · simp at hc
    rcases hc with rfl | rfl
    · exact hx
    · exact hy
  · have hj2 := (List.getElem?_eq_some_iff.1 hj).1
    simp at hj2
    rcases (by omega : j = 0 ∨ j = 1) with rfl | rfl <;> simp at hj <;> subst hj
    · exact ⟨w.heap.size, 0, 2, 2, rfl, by simp, Or.inl (upd_at _ _ _), by simp [go_sem, ↓IntWalk.iteOmega]⟩
    · exact ⟨w.heap.size, 0, 2, 2, rfl, by simp, Or.inl (upd_at _ _ _), by simp [go_sem, ↓IntWalk.iteOmega]⟩
theorem adv_c (T : TS) (t : Int) : 0 ≤ (T.adv t).1 ∧ (T.adv t).1 ≤ 7 := by
  unfold TS.adv
  split
  · simp
  · split <;> simp
theorem stand_c (T : TS) (r c t : Int) : 0 ≤ (T.stand r c t).1 ∧ (T.stand r c t).1 ≤ 7 := by
  have := place_bd T r c t
  unfold TS.stand
  split
  · simp only; omega
  · split
    · simp
    · split
      · simp
      · unfold TS.stand3
        split
        · simp
        · split <;> simp
theorem reserve_c (T : TS) (r c t : Int) : 0 ≤ (T.reserve r c t).1 ∧ (T.reserve r c t).1 ≤ 7 := by
  have := place_bd T r c t
  unfold TS.reserve
  split
  · simp only; omega
  · split
    · simp
    · split
      · simp
      · split
        · simp
        · split <;> simp
theorem pathGo_c (T0 : TS) (r s : Int) : ∀ (l : List Int) (i : Nat) (T : TS), (0 ≤ (T0.pathGo r s i l T).1 ∧ (T0.pathGo r s i l T).1 ≤ 7) ∧ (T0.pathGo r s i l T).2.1 ≤ i + l.length
  | [], i, T => by simp [TS.pathGo]
  | c :: l, i, T => by
    rw [TS.pathGo]
    split
    · exact ⟨reserve_c T r c (s + i), by simp⟩
    · have := pathGo_c T0 r s l (i + 1) (T.reserve r c (s + i)).2
      refine ⟨this.1, ?_⟩
      have := this.2
      simp
      omega
theorem path_c (T : TS) (r s : Int) (l : List Int) : (0 ≤ (T.path r s l).1 ∧ (T.path r s l).1 ≤ 7) ∧ (T.path r s l).2.1 ≤ l.length := by
  have := pathGo_c T r s l 0 T
  unfold TS.path
  refine ⟨this.1, ?_⟩
  have := this.2
  omega
end Go.Proofs.Qxb6500716a
