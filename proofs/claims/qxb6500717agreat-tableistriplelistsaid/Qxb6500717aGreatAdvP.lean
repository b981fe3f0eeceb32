/-
  Advance, plain; a span written over in place.
-/
import Derived.Test.Qxb6500717aGreatTrunc
namespace Go.Proofs.Qxb6500717aGreat
open Go.RowKit
set_option linter.unusedSimpArgs false
set_option linter.unusedVariables false

/-- The robots from k on, n of them, lose what they hold at tick t. -/
def TabS.dropR (t : Nat) : Nat → Nat → TabS → TabS
  | _, 0, T => T
  | k, n + 1, T => TabS.dropR t (k + 1) n (T.drop k (t % 256)).2
/-- All lose what they hold at n ticks from t on. -/
def TabS.dropA : Nat → Nat → TabS → TabS
  | _, 0, T => T
  | t, n + 1, T => TabS.dropA (t + 1) n (TabS.dropR t 0 T.nr T)
/-- What is left of a robot's spans. -/
def keepSp (to : Nat) (l : List (Nat × Nat × Nat)) : List (Nat × Nat × Nat) := l.filterMap fun x => if x.2.2 ≤ to then none else some (x.1, max x.2.1 to, x.2.2)
def TabS.keep1 (to k : Nat) (T : TabS) : TabS := { T with held := T.held - ((T.sp k).length - (keepSp to (T.sp k)).length), sp := upd T.sp k (keepSp to (T.sp k)) }
def TabS.keepN (to : Nat) : Nat → Nat → TabS → TabS
  | _, 0, T => T
  | k, n + 1, T => TabS.keepN to (k + 1) n (T.keep1 to k)
/-- The window moved on to a tick. -/
def TabS.adv (T : TabS) (to : Nat) : TabS := TabS.keepN to 0 T.nr { (TabS.dropA T.base (min to (T.base + 256) - T.base) T) with base := to }

theorem upd_upd {α : Type} (f : Nat → α) (i : Nat) (a b : α) : upd (upd f i a) i b = upd f i b := by funext j; unfold upd; split <;> rfl
theorem take_set' {α : Type} (l : List α) (k : Nat) (y : α) : (l.set k y).take k = l.take k := by
  apply List.ext_getElem?
  intro i
  rw [List.getElem?_take, List.getElem?_take]
  split
  · rw [List.getElem?_set_ne (by omega)]
  · rfl
theorem keepSp_len (to : Nat) (l : List (Nat × Nat × Nat)) : (keepSp to l).length ≤ l.length := List.length_filterMap_le _ _
theorem keepSp_snoc (to : Nat) (l : List (Nat × Nat × Nat)) (i : Nat) (x : Nat × Nat × Nat) (hx : l[i]? = some x) : keepSp to (l.take (i + 1)) = if x.2.2 ≤ to then keepSp to (l.take i) else keepSp to (l.take i) ++ [(x.1, max x.2.1 to, x.2.2)] := by
  rw [List.take_add_one, hx]
  unfold keepSp
  rw [List.filterMap_append]
  split <;> simp [*]
theorem keepSp_mem {to : Nat} {l : List (Nat × Nat × Nat)} {y : Nat × Nat × Nat} (h : y ∈ keepSp to l) : ∃ x, x ∈ l ∧ ¬ x.2.2 ≤ to ∧ y = (x.1, max x.2.1 to, x.2.2) := by
  unfold keepSp at h
  rw [List.mem_filterMap] at h
  obtain ⟨x, hx, he⟩ := h
  split at he
  · cases he
  · exact ⟨x, hx, by assumption, by simpa using he.symm⟩

theorem srow_put (l : List (Nat × Nat × Nat)) (k : Nat) (y : Nat × Nat × Nat) (h : k < l.length) : srow (l.set k y) = (((srow l).set (3 * k) (.int .i64 (y.1))).set (3 * k + 1) (.int .i64 (y.2.1))).set (3 * k + 1 + 1) (.int .i64 (y.2.2)) := by
  induction l generalizing k with
  | nil => simp at h
  | cons x l ih =>
    cases k with
    | zero => rfl
    | succ k =>
      have := ih k (by simpa using h)
      rw [show 3 * (k + 1) = 3 * k + 3 by omega, show 3 * k + 3 + 1 + 1 = 3 * k + 1 + 1 + 3 by omega, show 3 * k + 3 + 1 = 3 * k + 1 + 3 by omega]
      show srow [x] ++ srow (l.set k y) = _
      rw [this]
      rfl

/-- A span in memory is written over. -/
theorem Pad.over {w : World} {b k : Nat} {l : List (Nat × Nat × Nat)} (h : Pad w b k (srow l)) (i : Nat) (y : Nat × Nat × Nat) (hi : i < l.length) : Pad (w.setCells b (3 * i) (srow [y])) b k (srow (l.set i y)) := by
  rw [srow_put l i y hi]
  have hl := srow_len l
  have h1 := Pad.set h (3 * i) (.int .i64 (y.1)) (by omega)
  have h2 := Pad.set h1 (3 * i + 1) (.int .i64 (y.2.1)) (by rw [List.length_set]; omega)
  have h3 := Pad.set h2 (3 * i + 1 + 1) (.int .i64 (y.2.2)) (by rw [List.length_set, List.length_set]; omega)
  exact h3

section
variable {w : World} {lab : Nat → Nat} {M : TabM} {T : TabS}
theorem SpAt.pad {tag b n cap : Nat} {l : List (Nat × Nat × Nat)} (h : SpAt w lab tag (.slice (some ⟨b, 0, none⟩) n cap) l) : l.length = n ∧ n ≤ cap ∧ lab b = tag ∧ Pad w b (3 * cap) (srow l) := by
  obtain ⟨ao', cap', h1, h2, h3⟩ := h.ex
  simp only [Value.slice.injEq] at h1
  obtain ⟨rfl, rfl, rfl⟩ := h1
  rcases h3 with ⟨h3, -⟩ | ⟨b', e, hl, hp⟩
  · cases h3
  · simp only [Option.some.injEq, Addr.mk.injEq, and_true] at e
    subst e
    exact ⟨rfl, h2, hl.1, hp⟩
theorem TAt.setE (h : TAt w lab M T) {r b n cap k : Nat} (hr : r < T.nr) (hv : M.sv r = .slice (some ⟨b, 0, none⟩) n cap) (hk : k < n) (y : Nat × Nat × Nat) (hy : y.1 < T.nc ∧ y.2.1 ≤ 2000000000 ∧ y.2.2 ≤ 1099511627776) :
    TAt (w.setCells b (3 * k) (srow [y])) lab M { T with sp := upd T.sp r ((T.sp r).set k y) } ∧ KeptL lab (fun x => x = 20 + r) w (w.setCells b (3 * k) (srow [y])) := by
  have hnr := h.bd.nr
  have hs := h.bsr r hr
  rw [hv] at hs
  obtain ⟨e1, e2, e3, e4⟩ := hs.pad
  have hk3 : KeptL lab (fun x => x = 20 + r) w (w.setCells b (3 * k) (srow [y])) := KeptL.of_but (setCells_kept b _ _ w) e3
  refine ⟨⟨{ h.bd with sp := fun r' x hr' hx => ?_, ln := fun r' hr' => ?_ }, ?_, ?_, ?_, fun r' hr' => ?_, ?_, fun r' hr' => ?_, h.lt, h.lg, h.lp, h.ls, h.lpr⟩, hk3⟩
  · have hx2 : x ∈ upd T.sp r ((T.sp r).set k y) r' := hx
    unfold upd at hx2
    split at hx2
    · rcases List.mem_or_eq_of_mem_set hx2 with hx3 | hx3
      · exact h.bd.sp r x hr hx3
      · rw [hx3]; exact hy
    · exact h.bd.sp r' x hr' hx2
  · show (upd T.sp r ((T.sp r).set k y) r').length ≤ 1536
    unfold upd
    split
    · rw [List.length_set]; exact h.bd.ln r hr
    · exact h.bd.ln r' hr'
  · exact (h.bt.keptL hk3 (by rw [h.lt]; omega)).congr (fun i hi => by
      rcases (by omega : i = 0 ∨ i = 1 ∨ i = 2 ∨ i = 3 ∨ i = 4 ∨ i = 5 ∨ i = 6 ∨ i = 7) with rfl | rfl | rfl | rfl | rfl | rfl | rfl | rfl <;> rfl)
  · exact h.bg.keptL hk3 (by rw [h.lg]; omega)
  · exact h.bp.keptL hk3 (by rw [h.lp]; omega)
  · exact (h.bpr r' hr').keptL hk3 (by rw [h.lpr r' hr']; have : r' < T.nr := hr'; omega)
  · exact h.bs.keptL hk3 (by rw [h.ls]; omega)
  · show SpAt _ lab (20 + r') (M.sv r') (upd T.sp r ((T.sp r).set k y) r')
    by_cases e : r' = r
    · subst e
      rw [upd_at, hv]
      exact ⟨_, cap, by rw [List.length_set, e1], by rw [List.length_set]; omega, Or.inr ⟨b, rfl, ⟨e3, by omega⟩, Pad.over e4 k y (by omega)⟩⟩
    · rw [upd_ne _ _ e]
      exact (h.bsr r' hr').keptL hk3 (by have : r' < T.nr := hr'; omega)
end

/-- 'append' onto the beginning of a robot's own spans. -/
theorem wp_over {w : World} {ops : Array Oper} {rest : List Oper} {o : Oper} {a : Act} {Q : Exit → Act → World → Prop} (hgd : o.guard = none) (s x : Operand)
    (ho : o.op = .call { callee := .builtin .append, args := #[s, x], argTypes := #[105, 105] })
    (b k cap : Nat) (l : List (Nat × Nat × Nat)) (hs : a.eval s = .slice (some ⟨b, 0, none⟩) k cap) (hpad : Pad w b (3 * cap) (srow l)) (hk : k < cap)
    (b2 : Nat) (y : Nat × Nat × Nat) (hx : a.eval x = .slice (some ⟨b2, 0, none⟩) 1 1) (h0 : w.cell? ⟨b2, 0, none⟩ = some (.int .i64 (y.1))) (h1 : w.cell? ⟨b2, 1, none⟩ = some (.int .i64 (y.2.1))) (h2 : w.cell? ⟨b2, 2, none⟩ = some (.int .i64 (y.2.2)))
    (h : ∀ w', w' = w.setCells b (3 * k) (srow [y]) → wpList Tryz.prog ops Q rest (a.put o.dst (.slice (some ⟨b, 0, none⟩) (k + 1) cap)) w') : wpList Tryz.prog ops Q (o :: rest) a w := by
  have hnews : ∀ (j : Nat) (u : Value), (srow [y])[j]? = some u → w.cell? (Addr.add ⟨b2, 0, none⟩ j) = some u := by
    intro j u hj
    have hj2 := (List.getElem?_eq_some_iff.1 hj).1
    simp [srow] at hj2
    rw [Addr.add_lit]
    rcases (by omega : j = 0 ∨ j = 1 ∨ j = 2) with rfl | rfl | rfl <;> simp [srow] at hj <;> subst hj <;> simpa
  have hone : ∀ u ∈ srow [y], u.oneCell' = true := by simp [srow, Value.oneCell']
  obtain ⟨i, hi, hz0, hz1, hz2⟩ := info_parts (P := Tryz.prog) (e := 107) (z := .agg #[.int .i64 (0), .int .i64 (0), .int .i64 (0)]) (size := 3) (bytes := 24) (by kernel_rfl)
  have hlen : (srow [y]).length = 3 := rfl
  have hrun := run_append_room_cells (P := Tryz.prog) w 105 o.type 107 i Tryz.underlying105 hi b 0 k cap ⟨b2, 0, none⟩ 1 1 (srow [y]) (by rw [hz1]; rfl) hnews hone (by omega)
    (fun j hj => by rw [hz1, Nat.zero_add]; exact hpad.has _ (by omega)) (fun j hj => by rw [hz1, Nat.zero_add]; exact hpad.fz _ (by omega))
  rw [hz1, Nat.zero_add, Nat.mul_comm] at hrun
  refine wpList_plain hgd fun K hK' => ?_
  unfold Oper.wp
  simp [execOp, ho, resolve, invoke, builtin, hs, hx, hrun, Result.andThen]
  exact hK' _ _ (h _ rfl)

theorem slice_nil0 (w : World) : (Instr.sliceAt 105 (.slice none 0 0) none (some (.int .i64 (0))) none).run Tryz.prog w = .ok (.slice none 0 0) w := by
  have he : (Tryz.prog).elem 105 = 107 := by simp [Program.elem, Tryz.underlying105]
  have ht' : (Tryz.prog).underlying 105 = some (.slice ((Tryz.prog).elem 105)) := by rw [he]; exact Tryz.underlying105
  rw [run_sliceAt_slice _ _ _ _ _ _ ht']
  have hsz : (sizeOf ((Tryz.prog).elem 105)).run Tryz.prog w = .ok 3 w := by rw [he]; kernel_rfl
  rw [run_slice_h _ _ _ _ _ ht' _ _ (by omega) (by omega), hsz]
  rfl
end Go.Proofs.Qxb6500717aGreat
