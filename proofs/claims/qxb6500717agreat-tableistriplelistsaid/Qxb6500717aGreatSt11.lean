/-
  The model's Step: the heap's pop.
-/
import Derived.Test.Qxb6500717aGreatSt10
namespace Go.Proofs.Qxb6500717aGreat
open Go.RowKit
set_option linter.unusedSimpArgs false
set_option linter.unusedVariables false
set_option maxRecDepth 20000
set_option maxHeartbeats 4000000

theorem own_hx {w : World} {base : Nat} {e : TypeId} {v : Value} {n : Nat} {L : List Ent} (h : w.ownsRow base e 4 v n (erow L)) :
    (v = .slice none 0 0 ∧ n = 0) ∨ ∃ g cap, v = .slice (some ⟨g, 0, none⟩) n cap ∧ n ≤ cap ∧ base ≤ g ∧ HX w g cap L := by
  obtain ⟨h1, h2⟩ := h
  rcases h2 with h2 | ⟨g, cap, cur, hv, hg, hh, hnc, _, hsz, ht⟩
  · exact Or.inl h2
  · refine Or.inr ⟨g, cap, hv, hnc, hg, (Array.getElem?_eq_some_iff.1 hh).1, fun j hj => ?_, fun j hj => ?_, fun j u hu => ?_, by omega⟩
    · rw [cell_of_row _ _ j cur e (0, 0) hh, Array.getElem?_eq_getElem (by omega)]; rfl
    · unfold World.frozen?; simp only [hh]; simp
    · rw [cell_of_row _ _ j cur e (0, 0) hh]
      rw [← ht, List.getElem?_take] at hu
      split at hu
      · simpa using hu
      · cases hu
theorem erow_one (l : List Ent) : ∀ u ∈ erow l, u.oneCell' = true := by
  intro u hu
  simp only [erow, List.mem_flatMap] at hu
  obtain ⟨x, _, hx⟩ := hu
  simp at hx
  rcases hx with rfl | rfl | rfl | rfl <;> rfl
theorem erow_drop (l : List Ent) (k : Nat) : erow (l.drop k) = (erow l).drop (4 * k) := by
  induction l generalizing k with
  | nil => simp [erow]
  | cons x l ih =>
    cases k with
    | zero => simp
    | succ k =>
      rw [List.drop_succ_cons, ih k, show 4 * (k + 1) = 4 * k + 4 by omega]
      rfl
theorem st_pop (A B C D : Int) (ao : Option Addr) (n cap : Nat) (lab : Nat → Nat) (m k : Nat) (M : ModS) (w : World) (h : ModX w lab m k M) (hk9 : k ≤ 900000) : Calls Tryz.prog 8 #[.pointer (some ⟨m, 0, none⟩), .agg #[.int .i64 (15), .int .i64 (A), .int .i64 (B), .int .i64 (C), .int .i64 (D), .slice ao n cap]] w (popPost lab m k M true w) := by
  have HH := hid h
  obtain ⟨V, hO, h8, h9, h7, h10⟩ := h.opens
  have HO := hid hO
  have H8 := hid h8
  have H9 := hid h9
  have H10 := hid h10
  have M0 := hO w (Below.rf _)
  have c7 := M0.cv 7 (by omega) (by omega)
  have c8 := M0.cv 8 (by omega) (by omega)
  simp only at c7 c8
  rw [h8] at c8
  have H7 := hid h7
  obtain ⟨ao7, cap7, e7, h5, h6⟩ := h7
  rw [e7] at c7
  have H6 := hid h6
  have E7 := hid e7
  have bk := h.bk
  have f7 := M0.fz 7 (by omega)
  have f8 := M0.fz 8 (by omega)
  have CV := hid M0.cv
  have FZ := hid M0.fz
  have lt := M0.rd.lt
  have LM := hid h.lm
  clear h hO h8 h9 h10 M0 h6 e7
  obtain ⟨ln, hln⟩ : ∃ n, M.H.length = n := ⟨_, rfl⟩
  by_cases h0 : ln = 0
  · subst h0
    rw [hln] at c7
    have HNIL := hid (List.length_eq_zero_iff.1 hln)
    clear hln
    go_enter Tryz.func8, Tryz.ntmps8
    go_wp2
    refine bodyPost_ret (v := .agg #[.int .u8 9, .slice none 0 0]) (by simp [results, Tryz.results8, go_sem, ↓IntWalk.iteOmega, *]) rfl ?_
    exact Or.inl ⟨HNIL.out, st_fin HH.out H8.out H9.out H7.out H10.out (by (repeat (first | with_reducible exact Below.rf _ | with_reducible exact World.below_ext _ _ | with_reducible refine Below.ex ?_ _ | with_reducible refine Below.al ?_ _ | with_reducible refine Below.setCell ?_ (by simp) _ | with_reducible refine Below.drew ?_))) (by simp <;> omega) (HO.out _ (by (repeat (first | with_reducible exact Below.rf _ | with_reducible exact World.below_ext _ _ | with_reducible refine Below.ex ?_ _ | with_reducible refine Below.al ?_ _ | with_reducible refine Below.setCell ?_ (by simp) _ | with_reducible refine Below.drew ?_)))) (KeptBut.refl _ _) (KeptBut.refl _ _) HH.out.ft (IntsAt.nil _ _)⟩
  obtain ⟨b, e1, e2, e4⟩ : ∃ b, ao7 = some ⟨b, 0, none⟩ ∧ lab b = 32 ∧ HX w b cap7 M.H := by
    rcases H6.out with ⟨-, h6⟩ | h6
    · omega
    · exact h6
  subst e1
  rw [hln] at c7 h5 bk
  have HLN := hid hln
  have E4 := hid e4
  have lb := e4.lt
  have ML := hid (fun w1 (hB : Below w.heap.size w w1) => mleast_any m b ln cap7 M.H w1 (Nat.lt_of_lt_of_le lt hB.size) ((World.cell?_of_block (hB.block m lt)).trans c7) (by omega) hln (e4.below hB))
  have n0 : ((ln : Int) == 0) = false := by simp; omega
  clear hln e4
  go_enter Tryz.func8, Tryz.ntmps8
  go_wp2_with (go_at_call 44; refine (ML.out _ (by (repeat (first | with_reducible exact Below.rf _ | with_reducible exact World.below_ext _ _ | with_reducible refine Below.ex ?_ _ | with_reducible refine Below.al ?_ _ | with_reducible refine Below.setCell ?_ (by simp) _ | with_reducible refine Below.drew ?_)))).mono ?_; rintro e w' ⟨⟨i, rfl, hli⟩, z1, rfl⟩; refine hold ?_)
  unfold Hid
  have hil : i < ln := by rw [← HLN.out]; exact hli.1
  obtain ⟨p0, p1, p2, p3, -⟩ := E4.out.at (i := i) hli.1
  obtain ⟨x, hx⟩ : ∃ x, at0 M.H i = x := ⟨_, rfl⟩
  rw [hx] at p0 p1 p2 p3
  have HX1 := hid hx
  have HLI := hid hli
  have sl1 := slice_mhi b i ln cap7 (by omega) (by omega)
  have sl2 := slice_mlo b ln cap7 (i + 1) ((i : Int) + 1) (by omega) (by omega) h5
  have hw1 : IntKind.i64.wrap ((i : Int) + 1) = ((i + 1 : Nat) : Int) := by rw [IntWalk.i64_in _ (by omega)]; rfl
  have hw2 : ((i + 1 : Nat) : Int) ≤ (ln : Int) := by omega
  clear hli hx
  have hb1 : ∀ (w1 : World), Below w.heap.size w w1 → ∀ j u, (erow (M.H.take i))[j]? = some u → w1.cell? ⟨b, 0 + j, none⟩ = some u := by
    intro w1 hB j u hj
    rw [Nat.zero_add]
    exact Pad.is ((E4.out.below hB).take i) j u hj
  by_cases hce : cap7 = i + 1
  · have hle : ln = i + 1 := by omega
    rw [if_pos hce] at sl2
    clear sl2
    have hw3 : 0 ≤ (i : Int) + 1 := by omega
    subst hce
    subst hle
    have hb2 : ∀ (w1 : World), Below w.heap.size w w1 → ∀ j u, (erow (M.H.drop (i + 1)))[j]? = some u → w1.cell? ⟨b, 0 + j, none⟩ = some u := by
      intro w1 hB j u hj
      rw [List.drop_eq_nil_of_le (by rw [HLN.out]; omega)] at hj
      simp [erow] at hj
    go_wp2
    refine wp_region_tree 19 (fun w' => w'.cell? ⟨m, 7, none⟩ = some (.slice (some ⟨b, 0, none⟩) (i + 1) (i + 1))) (.q 0 false (.q 2 false (.q 3 false (.q 4 false (.q 5 true (.q 6 false (.q 7 false (.q 9 false (.q 10 false (.q 11 false (.q 12 true (.q 13 false (.q 14 false (.q 15 false (.one 1 true (.one 8 true (.one 16 true (.one 17 true (.one 18 true (.one 19 false (.nil))))))))))))))))))))) (by kernel_rfl) (by kernel_rfl) (by kernel_rfl) ?_ ?_
    · simp [go_sem, ↓IntWalk.iteOmega, *]
    repeat (first | (refine wpTr_qf (v := ?_) rfl rfl ?_ ?_; rotate_left; focus (intro w; go_simp; (try (with_reducible rfl)); done); try simp only [List.getElem_toArray, List.getElem_cons_zero, List.getElem_cons_succ, Act.put, List.setIfInBounds_toArray, List.set_cons_zero, List.set_cons_succ]) | (refine wpTr_qt (v := ?_) rfl rfl ?_ ?_; rotate_left; focus (intro w hSw; (try dsimp only at hSw); go_simp; (try (with_reducible rfl)); done); try simp only [List.getElem_toArray, List.getElem_cons_zero, List.getElem_cons_succ, Act.put, List.setIfInBounds_toArray, List.set_cons_zero, List.set_cons_succ]))
    refine wpTr_one rfl rfl (fun K hK => ?_)
    go_simp
    refine hK.out _ _ (fun _ => by simp [go_sem, ↓IntWalk.iteOmega, *]) ?_
    clear hK K
    refine wpTr_one rfl rfl (fun K hK => ?_)
    refine oper_app (P := Tryz.prog) rfl _ _ 29 rfl (w.heap.size + 1 + 1 + z1.heap.size + 1) 82 (.agg #[.int .i64 (0), .int .i64 (0), .int .i64 (0), .int .i64 (0)]) 4 32 Tryz.underlying29 (by kernel_rfl) rfl (by decide) _ 0 [] (by simp [go_sem]; rfl) (owns_made #[] 0 _ (by simp) (by simp <;> omega) (by decide) (by simp)) b 0 i (i + 1) (erow (M.H.take i)) (by simp [go_sem]) (by rw [erow_len, List.length_take, HLN.out]; omega) (hb1 _ (by (repeat (first | with_reducible exact Below.rf _ | with_reducible exact World.below_ext _ _ | with_reducible refine Below.ex ?_ _ | with_reducible refine Below.al ?_ _ | with_reducible refine Below.setCell ?_ (by simp) _ | with_reducible refine Below.drew ?_)))) (erow_one _) (by omega) (by omega) (by simp <;> omega) ?_
    intro v1 w3 ho3 hb3
    rw [List.nil_append, Nat.zero_add] at ho3
    have hB3 : Below w.heap.size w w3 := Below.trans (by (repeat (first | with_reducible exact Below.rf _ | with_reducible exact World.below_ext _ _ | with_reducible refine Below.ex ?_ _ | with_reducible refine Below.al ?_ _ | with_reducible refine Below.setCell ?_ (by simp) _ | with_reducible refine Below.drew ?_))) (hb3.mono (by omega))
    have d7 := cell_kq hB3 lt c7
    have t0 := hb3.cell (p := ⟨w.heap.size + 1 + 1 + z1.heap.size, 0, none⟩) (by simp)
    have t1 := hb3.cell (p := ⟨w.heap.size + 1 + 1 + z1.heap.size, 1, none⟩) (by simp)
    have t2 := hb3.cell (p := ⟨w.heap.size + 1 + 1 + z1.heap.size, 2, none⟩) (by simp)
    have y0 := hb3.cell (p := ⟨w.heap.size + 1, 0, none⟩) (by simp <;> omega)
    have y1 := hb3.cell (p := ⟨w.heap.size + 1, 1, none⟩) (by simp <;> omega)
    have y2 := hb3.frozen (p := ⟨w.heap.size + 1, 0, none⟩) (by simp <;> omega)
    have y3 := hb3.frozen (p := ⟨w.heap.size + 1, 1, none⟩) (by simp <;> omega)
    simp [go_sem, ↓IntWalk.iteOmega] at t0 t1 t2 y0 y1 y2 y3
    have s3 := hb3.size
    simp at s3
    refine hK.out _ _ (fun _ => d7) ?_
    clear hK K
    refine wpTr_one rfl rfl (fun K hK => ?_)
    refine oper_app (P := Tryz.prog) rfl _ _ 29 rfl (w.heap.size + 1 + 1 + z1.heap.size + 1) 82 (.agg #[.int .i64 (0), .int .i64 (0), .int .i64 (0), .int .i64 (0)]) 4 32 Tryz.underlying29 (by kernel_rfl) rfl (by decide) v1 i (erow (M.H.take i)) (by simp [go_sem]) ho3 b (0) ((i + 1) - (i + 1)) ((i + 1) - (i + 1)) (erow (M.H.drop (i + 1))) (by simp [go_sem, *]) (by rw [erow_len, List.length_drop, HLN.out]; omega) (hb2 _ hB3) (erow_one _) (by omega) (by omega) (by omega) ?_
    intro v2 w5 ho5 hb5
    have hb5' := hb5
    have hB5 : Below w.heap.size w w5 := hB3.trans (hb5'.mono (by omega))
    rw [← erow_app, ← List.eraseIdx_eq_take_drop_succ, show i + ((i + 1) - (i + 1)) = (i + 1) - 1 by omega] at ho5
    obtain ⟨aoq, capq, rfl⟩ := own_val ho5
    have e7 := cell_kq hB5 lt c7
    have g7 := froz_kq hB5 lt f7
    have u0 := (hb5'.cell (p := ⟨w.heap.size + 1 + 1 + z1.heap.size, 0, none⟩) (by simp)).trans t0
    have u1 := (hb5'.cell (p := ⟨w.heap.size + 1 + 1 + z1.heap.size, 1, none⟩) (by simp)).trans t1
    have u2 := (hb5'.cell (p := ⟨w.heap.size + 1 + 1 + z1.heap.size, 2, none⟩) (by simp)).trans t2
    have q0 := (hb5'.cell (p := ⟨w.heap.size + 1, 0, none⟩) (by simp <;> omega)).trans y0
    have q1 := (hb5'.cell (p := ⟨w.heap.size + 1, 1, none⟩) (by simp <;> omega)).trans y1
    have q2 := (hb5'.frozen (p := ⟨w.heap.size + 1, 0, none⟩) (by simp <;> omega)).trans y2
    have q3 := (hb5'.frozen (p := ⟨w.heap.size + 1, 1, none⟩) (by simp <;> omega)).trans y3
    have s5 := Nat.le_trans s3 hb5'.size
    refine hK.out _ _ (fun _ => e7) ?_
    have HO5 := hid ho5
    have HB5 := hid hB5
    have lt5 := Nat.lt_of_lt_of_le lt hB5.size
    clear hK K ho3 hb3 hB3 d7 t0 t1 t2 y0 y1 y2 y3 s3 ho5 hb5 hb5' hB5
    refine wpTr_one rfl rfl (fun K hK => ?_)
    go_simp
    refine hK.out _ _ (fun _ => by simp [go_sem, ↓IntWalk.iteOmega, *]) ?_
    clear hK K
    refine wpTr_one rfl rfl (fun K hK => ?_)
    go_simp
    refine hK.out _ _ (fun _ => by simp [go_sem, ↓IntWalk.iteOmega, *]) ?_
    clear hK K
    refine wpTr_one rfl rfl (fun K hK => ?_)
    go_simp
    refine hK.out _ _ (fun h => by cases h) ?_
    clear hK K
    refine wpTr_nil ?_
    refine NoPanic.normal ?_
    go_wp2_with (go_at_call 43; refine (mok_any _ ⟨_, _, _, rfl⟩ _).mono ?_; rintro e w' ⟨rfl, z9, rfl⟩)
    refine bodyPost_ret (v := .agg #[.int .u8 0, .slice (some ⟨w5.heap.size, 0, none⟩) 3 3]) (by simp [results, Tryz.results8, go_sem, ↓IntWalk.iteOmega, *]) rfl ?_
    refine Or.inr ⟨i, HLI.out, ?_⟩
    rw [HX1.out, if_pos rfl]
    have K5 : KeptL lab (fun x => x = 30) w w5 := KeptL.of_below HB5.out
    have K6 := ((((K5.set (b := m) (i := 7) LM.out (.slice aoq ((i + 1) - 1) capq)).setF (b := w.heap.size + 1) (i := 0) (by omega) (.int .u8 0)).setF (b := w.heap.size + 1) (i := 1) (by omega) (.slice (some ⟨w5.heap.size, 0, none⟩) 3 3)).al (.cells #[.int .i64 (x.1), .int .i64 (x.2.1), .int .i64 (x.2.2.1)] 3)).ex z9
    have hel : (M.H.eraseIdx i).length = (i + 1) - 1 := by rw [List.length_eraseIdx, if_pos HLI.out.1, HLN.out]
    have CW := fun q => World.cell?_of_block (a := ⟨m, q, none⟩) (HB5.out.block m lt)
    have FW := fun q => World.frozen?_of_block (a := ⟨m, q, none⟩) (HB5.out.block m lt)
    obtain ⟨g, hg⟩ : ∃ g, (aoq = none ∧ (i + 1) - 1 = 0 ∧ capq = 0) ∨ (aoq = some ⟨g, 0, none⟩ ∧ (i + 1) - 1 ≤ capq ∧ w.heap.size + 1 + 1 + z1.heap.size + 1 ≤ g ∧ HX w5 g capq (M.H.eraseIdx i)) := by
      rcases own_hx HO5.out with ⟨h1, h2⟩ | ⟨g, cq, h1, h2, h3, h4⟩
      · simp only [Value.slice.injEq] at h1
        exact ⟨0, Or.inl ⟨h1.1, h1.2⟩⟩
      · simp only [Value.slice.injEq] at h1
        obtain ⟨e1, -, e3⟩ := h1
        subst e3
        exact ⟨g, Or.inr ⟨e1, h2, h3, h4⟩⟩
    refine st_fin3 (V' := fun q => if q = 7 then .slice aoq ((i + 1) - 1) capq else V q) (lab' := relab2 lab w.heap.size (World.heap _).size g 32) HH.out rfl (K6.mono (fun x hx => Or.inl hx)) (fun q hq => ?_) (fun q h1 h2 => ?_) (fun q hq => ?_) (fun j hj => relab2_old hj) (fun j hj => relab2_top K6.size hj) (fun j hj => relab2_new hj (by omega)) ?_ ?_ ?_ ?_ ?_ (IntsAt.three (by omega) (by simp <;> omega) (by simp [go_sem, ↓IntWalk.iteOmega]) (by simp [go_sem, ↓IntWalk.iteOmega]) (by simp [go_sem, ↓IntWalk.iteOmega]))
    · simp [go_sem, ↓IntWalk.iteOmega]
      exact CW q
    · rcases (by omega : q = 7 ∨ q = 8 ∨ q = 9 ∨ q = 10) with rfl | rfl | rfl | rfl
      · simp [go_sem, ↓IntWalk.iteOmega, *]
      · simp [go_sem, ↓IntWalk.iteOmega]
        exact (CW 8).trans (CV.out 8 (by omega) (by omega))
      · simp [go_sem, ↓IntWalk.iteOmega]
        exact (CW 9).trans (CV.out 9 (by omega) (by omega))
      · simp [go_sem, ↓IntWalk.iteOmega]
        exact (CW 10).trans (CV.out 10 (by omega) (by omega))
    · simp [go_sem, ↓IntWalk.iteOmega]
      exact (FW q).trans (FZ.out q hq)
    · simpa using H8.out
    · simpa using H9.out
    · rcases hg with ⟨rfl, h1, rfl⟩ | ⟨rfl, h1, h2, h3⟩
      · exact ⟨none, 0, by simp [hel], by simp [hel]; omega, Or.inl ⟨rfl, rfl⟩⟩
      · refine ⟨some ⟨g, 0, none⟩, capq, by simp [hel], by simpa [hel] using h1, Or.inr ⟨g, rfl, relab2_g (by omega) (by have := h3.lt; simp; omega), ?_⟩⟩
        refine HX.below (w := World.setCell (World.setCell (World.setCell w5 _ _) _ _) _ _) ?_ (by (repeat (first | with_reducible exact Below.rf _ | with_reducible exact World.below_ext _ _ | with_reducible refine Below.ex ?_ _ | with_reducible refine Below.al ?_ _ | with_reducible refine Below.setCell ?_ (by simp) _ | with_reducible refine Below.drew ?_)))
        refine HX.kept (HX.kept (HX.kept h3 ((KeptBut.refl _ _).set' _ _) (by omega)) ((KeptBut.refl _ _).set' _ _) (by omega)) ((KeptBut.refl _ _).set' _ _) (by omega)
    · exact H10.out.of (Nat.le_succ k) K6.size (fun j hj hl => (relab2_old hj).trans hl) (fun j hj hl => K6.block j hj (by omega))
    · simp [hel]
      omega
  · rw [if_neg hce] at sl2
    have hce2 : i + 1 < cap7 := by omega
    have hb2 : ∀ (w1 : World), Below w.heap.size w w1 → ∀ j u, (erow (M.H.drop (i + 1)))[j]? = some u → w1.cell? ⟨b, (i + 1) * 4 + j, none⟩ = some u := by
      intro w1 hB j u hj
      rw [erow_drop, List.getElem?_drop] at hj
      rw [Nat.mul_comm (i + 1)]
      exact Pad.is (E4.out.below hB) _ u hj
    go_wp2
    refine wp_region_tree 19 (fun w' => w'.cell? ⟨m, 7, none⟩ = some (.slice (some ⟨b, 0, none⟩) ln cap7)) (.q 0 false (.q 2 false (.q 3 false (.q 4 false (.q 5 true (.q 6 false (.q 7 false (.q 9 false (.q 10 false (.q 11 false (.q 12 true (.q 13 false (.q 14 false (.q 15 false (.one 1 true (.one 8 true (.one 16 true (.one 17 true (.one 18 true (.one 19 false (.nil))))))))))))))))))))) (by kernel_rfl) (by kernel_rfl) (by kernel_rfl) ?_ ?_
    · simp [go_sem, ↓IntWalk.iteOmega, *]
    repeat (first | (refine wpTr_qf (v := ?_) rfl rfl ?_ ?_; rotate_left; focus (intro w; go_simp; (try (with_reducible rfl)); done); try simp only [List.getElem_toArray, List.getElem_cons_zero, List.getElem_cons_succ, Act.put, List.setIfInBounds_toArray, List.set_cons_zero, List.set_cons_succ]) | (refine wpTr_qt (v := ?_) rfl rfl ?_ ?_; rotate_left; focus (intro w hSw; (try dsimp only at hSw); go_simp; (try (with_reducible rfl)); done); try simp only [List.getElem_toArray, List.getElem_cons_zero, List.getElem_cons_succ, Act.put, List.setIfInBounds_toArray, List.set_cons_zero, List.set_cons_succ]))
    refine wpTr_one rfl rfl (fun K hK => ?_)
    go_simp
    refine hK.out _ _ (fun _ => by simp [go_sem, ↓IntWalk.iteOmega, *]) ?_
    clear hK K
    refine wpTr_one rfl rfl (fun K hK => ?_)
    refine oper_app (P := Tryz.prog) rfl _ _ 29 rfl (w.heap.size + 1 + 1 + z1.heap.size + 1) 82 (.agg #[.int .i64 (0), .int .i64 (0), .int .i64 (0), .int .i64 (0)]) 4 32 Tryz.underlying29 (by kernel_rfl) rfl (by decide) _ 0 [] (by simp [go_sem]; rfl) (owns_made #[] 0 _ (by simp) (by simp <;> omega) (by decide) (by simp)) b 0 i cap7 (erow (M.H.take i)) (by simp [go_sem]) (by rw [erow_len, List.length_take, HLN.out]; omega) (hb1 _ (by (repeat (first | with_reducible exact Below.rf _ | with_reducible exact World.below_ext _ _ | with_reducible refine Below.ex ?_ _ | with_reducible refine Below.al ?_ _ | with_reducible refine Below.setCell ?_ (by simp) _ | with_reducible refine Below.drew ?_)))) (erow_one _) (by omega) (by omega) (by simp <;> omega) ?_
    intro v1 w3 ho3 hb3
    rw [List.nil_append, Nat.zero_add] at ho3
    have hB3 : Below w.heap.size w w3 := Below.trans (by (repeat (first | with_reducible exact Below.rf _ | with_reducible exact World.below_ext _ _ | with_reducible refine Below.ex ?_ _ | with_reducible refine Below.al ?_ _ | with_reducible refine Below.setCell ?_ (by simp) _ | with_reducible refine Below.drew ?_))) (hb3.mono (by omega))
    have d7 := cell_kq hB3 lt c7
    have t0 := hb3.cell (p := ⟨w.heap.size + 1 + 1 + z1.heap.size, 0, none⟩) (by simp)
    have t1 := hb3.cell (p := ⟨w.heap.size + 1 + 1 + z1.heap.size, 1, none⟩) (by simp)
    have t2 := hb3.cell (p := ⟨w.heap.size + 1 + 1 + z1.heap.size, 2, none⟩) (by simp)
    have y0 := hb3.cell (p := ⟨w.heap.size + 1, 0, none⟩) (by simp <;> omega)
    have y1 := hb3.cell (p := ⟨w.heap.size + 1, 1, none⟩) (by simp <;> omega)
    have y2 := hb3.frozen (p := ⟨w.heap.size + 1, 0, none⟩) (by simp <;> omega)
    have y3 := hb3.frozen (p := ⟨w.heap.size + 1, 1, none⟩) (by simp <;> omega)
    simp [go_sem, ↓IntWalk.iteOmega] at t0 t1 t2 y0 y1 y2 y3
    have s3 := hb3.size
    simp at s3
    refine hK.out _ _ (fun _ => d7) ?_
    clear hK K
    refine wpTr_one rfl rfl (fun K hK => ?_)
    refine oper_app (P := Tryz.prog) rfl _ _ 29 rfl (w.heap.size + 1 + 1 + z1.heap.size + 1) 82 (.agg #[.int .i64 (0), .int .i64 (0), .int .i64 (0), .int .i64 (0)]) 4 32 Tryz.underlying29 (by kernel_rfl) rfl (by decide) v1 i (erow (M.H.take i)) (by simp [go_sem]) ho3 b ((i + 1) * 4) (ln - (i + 1)) (cap7 - (i + 1)) (erow (M.H.drop (i + 1))) (by simp [go_sem, *]) (by rw [erow_len, List.length_drop, HLN.out]; omega) (hb2 _ hB3) (erow_one _) (by omega) (by omega) (by omega) ?_
    intro v2 w5 ho5 hb5
    have hb5' := hb5
    have hB5 : Below w.heap.size w w5 := hB3.trans (hb5'.mono (by omega))
    rw [← erow_app, ← List.eraseIdx_eq_take_drop_succ, show i + (ln - (i + 1)) = ln - 1 by omega] at ho5
    obtain ⟨aoq, capq, rfl⟩ := own_val ho5
    have e7 := cell_kq hB5 lt c7
    have g7 := froz_kq hB5 lt f7
    have u0 := (hb5'.cell (p := ⟨w.heap.size + 1 + 1 + z1.heap.size, 0, none⟩) (by simp)).trans t0
    have u1 := (hb5'.cell (p := ⟨w.heap.size + 1 + 1 + z1.heap.size, 1, none⟩) (by simp)).trans t1
    have u2 := (hb5'.cell (p := ⟨w.heap.size + 1 + 1 + z1.heap.size, 2, none⟩) (by simp)).trans t2
    have q0 := (hb5'.cell (p := ⟨w.heap.size + 1, 0, none⟩) (by simp <;> omega)).trans y0
    have q1 := (hb5'.cell (p := ⟨w.heap.size + 1, 1, none⟩) (by simp <;> omega)).trans y1
    have q2 := (hb5'.frozen (p := ⟨w.heap.size + 1, 0, none⟩) (by simp <;> omega)).trans y2
    have q3 := (hb5'.frozen (p := ⟨w.heap.size + 1, 1, none⟩) (by simp <;> omega)).trans y3
    have s5 := Nat.le_trans s3 hb5'.size
    refine hK.out _ _ (fun _ => e7) ?_
    have HO5 := hid ho5
    have HB5 := hid hB5
    have lt5 := Nat.lt_of_lt_of_le lt hB5.size
    clear hK K ho3 hb3 hB3 d7 t0 t1 t2 y0 y1 y2 y3 s3 ho5 hb5 hb5' hB5
    refine wpTr_one rfl rfl (fun K hK => ?_)
    go_simp
    refine hK.out _ _ (fun _ => by simp [go_sem, ↓IntWalk.iteOmega, *]) ?_
    clear hK K
    refine wpTr_one rfl rfl (fun K hK => ?_)
    go_simp
    refine hK.out _ _ (fun _ => by simp [go_sem, ↓IntWalk.iteOmega, *]) ?_
    clear hK K
    refine wpTr_one rfl rfl (fun K hK => ?_)
    go_simp
    refine hK.out _ _ (fun h => by cases h) ?_
    clear hK K
    refine wpTr_nil ?_
    refine NoPanic.normal ?_
    go_wp2_with (go_at_call 43; refine (mok_any _ ⟨_, _, _, rfl⟩ _).mono ?_; rintro e w' ⟨rfl, z9, rfl⟩)
    refine bodyPost_ret (v := .agg #[.int .u8 0, .slice (some ⟨w5.heap.size, 0, none⟩) 3 3]) (by simp [results, Tryz.results8, go_sem, ↓IntWalk.iteOmega, *]) rfl ?_
    refine Or.inr ⟨i, HLI.out, ?_⟩
    rw [HX1.out, if_pos rfl]
    have K5 : KeptL lab (fun x => x = 30) w w5 := KeptL.of_below HB5.out
    have K6 := ((((K5.set (b := m) (i := 7) LM.out (.slice aoq (ln - 1) capq)).setF (b := w.heap.size + 1) (i := 0) (by omega) (.int .u8 0)).setF (b := w.heap.size + 1) (i := 1) (by omega) (.slice (some ⟨w5.heap.size, 0, none⟩) 3 3)).al (.cells #[.int .i64 (x.1), .int .i64 (x.2.1), .int .i64 (x.2.2.1)] 3)).ex z9
    have hel : (M.H.eraseIdx i).length = ln - 1 := by rw [List.length_eraseIdx, if_pos HLI.out.1, HLN.out]
    have CW := fun q => World.cell?_of_block (a := ⟨m, q, none⟩) (HB5.out.block m lt)
    have FW := fun q => World.frozen?_of_block (a := ⟨m, q, none⟩) (HB5.out.block m lt)
    obtain ⟨g, hg⟩ : ∃ g, (aoq = none ∧ ln - 1 = 0 ∧ capq = 0) ∨ (aoq = some ⟨g, 0, none⟩ ∧ ln - 1 ≤ capq ∧ w.heap.size + 1 + 1 + z1.heap.size + 1 ≤ g ∧ HX w5 g capq (M.H.eraseIdx i)) := by
      rcases own_hx HO5.out with ⟨h1, h2⟩ | ⟨g, cq, h1, h2, h3, h4⟩
      · simp only [Value.slice.injEq] at h1
        exact ⟨0, Or.inl ⟨h1.1, h1.2⟩⟩
      · simp only [Value.slice.injEq] at h1
        obtain ⟨e1, -, e3⟩ := h1
        subst e3
        exact ⟨g, Or.inr ⟨e1, h2, h3, h4⟩⟩
    refine st_fin3 (V' := fun q => if q = 7 then .slice aoq (ln - 1) capq else V q) (lab' := relab2 lab w.heap.size (World.heap _).size g 32) HH.out rfl (K6.mono (fun x hx => Or.inl hx)) (fun q hq => ?_) (fun q h1 h2 => ?_) (fun q hq => ?_) (fun j hj => relab2_old hj) (fun j hj => relab2_top K6.size hj) (fun j hj => relab2_new hj (by omega)) ?_ ?_ ?_ ?_ ?_ (IntsAt.three (by omega) (by simp <;> omega) (by simp [go_sem, ↓IntWalk.iteOmega]) (by simp [go_sem, ↓IntWalk.iteOmega]) (by simp [go_sem, ↓IntWalk.iteOmega]))
    · simp [go_sem, ↓IntWalk.iteOmega]
      exact CW q
    · rcases (by omega : q = 7 ∨ q = 8 ∨ q = 9 ∨ q = 10) with rfl | rfl | rfl | rfl
      · simp [go_sem, ↓IntWalk.iteOmega, *]
      · simp [go_sem, ↓IntWalk.iteOmega]
        exact (CW 8).trans (CV.out 8 (by omega) (by omega))
      · simp [go_sem, ↓IntWalk.iteOmega]
        exact (CW 9).trans (CV.out 9 (by omega) (by omega))
      · simp [go_sem, ↓IntWalk.iteOmega]
        exact (CW 10).trans (CV.out 10 (by omega) (by omega))
    · simp [go_sem, ↓IntWalk.iteOmega]
      exact (FW q).trans (FZ.out q hq)
    · simpa using H8.out
    · simpa using H9.out
    · rcases hg with ⟨rfl, h1, rfl⟩ | ⟨rfl, h1, h2, h3⟩
      · exact ⟨none, 0, by simp [hel], by simp [hel]; omega, Or.inl ⟨rfl, rfl⟩⟩
      · refine ⟨some ⟨g, 0, none⟩, capq, by simp [hel], by simpa [hel] using h1, Or.inr ⟨g, rfl, relab2_g (by omega) (by have := h3.lt; simp; omega), ?_⟩⟩
        refine HX.below (w := World.setCell (World.setCell (World.setCell w5 _ _) _ _) _ _) ?_ (by (repeat (first | with_reducible exact Below.rf _ | with_reducible exact World.below_ext _ _ | with_reducible refine Below.ex ?_ _ | with_reducible refine Below.al ?_ _ | with_reducible refine Below.setCell ?_ (by simp) _ | with_reducible refine Below.drew ?_)))
        refine HX.kept (HX.kept (HX.kept h3 ((KeptBut.refl _ _).set' _ _) (by omega)) ((KeptBut.refl _ _).set' _ _) (by omega)) ((KeptBut.refl _ _).set' _ _) (by omega)
    · exact H10.out.of (Nat.le_succ k) K6.size (fun j hj hl => (relab2_old hj).trans hl) (fun j hj hl => K6.block j hj (by omega))
    · simp [hel]
      omega
end Go.Proofs.Qxb6500717aGreat
