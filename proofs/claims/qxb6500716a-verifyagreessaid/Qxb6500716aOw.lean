/-
  Lists of ints in blocks of one's own.
-/
import Derived.Test.Qxb6500716aTm
import Derived.Test.Qxb6500716aTl
import Derived.Laws.OwnMore
namespace Go.Proofs.Qxb6500716a
open Go.RowKit Go.Maps
set_option linter.unusedSimpArgs false
set_option linter.unusedVariables false
set_option maxRecDepth 20000
set_option maxHeartbeats 4000000
/-- A list of ints in a block at or behind base. -/
def Ow (w : World) (base : Nat) (v : Value) (l : List Int) : Prop := w.ownsRow base 3 1 v l.length (l.map fun x => .int .i64 (x))
theorem Ow.nil (w : World) (base : Nat) : Ow w base (.slice none 0 0) [] := nil_own _ _ _ _
section
variable {w w' : World} {base : Nat} {v : Value} {l : List Int}
theorem Ow.of_block (h : Ow w base v l) (hb : ∀ g, v.ownBlock = some g → w'.heap[g]? = w.heap[g]?) : Ow w' base v l := by
  obtain ⟨h1, h2⟩ := h
  refine ⟨h1, ?_⟩
  rcases h2 with h2 | ⟨g, cap, cur, hv, hg, hh, hnc, hm, hsz, ht⟩
  · exact Or.inl h2
  · exact Or.inr ⟨g, cap, cur, hv, hg, (hb g (by rw [hv]; rfl)).trans hh, hnc, hm, hsz, ht⟩
theorem Ow.lt (h : Ow w base v l) {g : Nat} (hg : v.ownBlock = some g) : base ≤ g ∧ g < w.heap.size := World.ownsRow.lt h g hg
theorem Ow.below (h : Ow w base v l) (hb : Below w.heap.size w w') : Ow w' base v l := h.of_block (fun g hg => hb.block g (h.lt hg).2)
theorem Ow.set (h : Ow w base v l) {b i : Nat} {u : Value} (hb : b < base) : Ow (w.setCell ⟨b, i, none⟩ u) base v l := h.of_block (fun g hg => Below.heap_setCell _ _ _ _ (by have := (h.lt hg).1; simp; omega))
theorem Ow.low (h : Ow w base v l) {base' : Nat} (hb : base' ≤ base) : Ow w base' v l := ownsRow_low h hb
theorem Ow.val (h : Ow w base v l) {n : Nat} (hn : l.length = n) : ∃ ao cap, v = .slice ao n cap := by
  obtain ⟨-, h2⟩ := h
  rcases h2 with ⟨h3, h4⟩ | ⟨g, cap, cur, hv, -⟩
  · exact ⟨none, 0, by rw [h3, ← hn, h4]⟩
  · exact ⟨_, cap, by rw [hv, hn]⟩
theorem Ow.see (h : Ow w base v l) (hn : 0 < l.length) : ∃ g cap, v = .slice (some ⟨g, 0, none⟩) l.length cap ∧ l.length ≤ cap ∧ base ≤ g ∧ g < w.heap.size ∧ (∀ j, j < l.length → w.cell? ⟨g, j, none⟩ = some (.int .i64 (l.getD j 0))) ∧ ∀ j, w.frozen? ⟨g, j, none⟩ = false := by
  have h0 := h
  obtain ⟨h1, h2⟩ := h
  rcases h2 with ⟨_, h2⟩ | ⟨g, cap, cur, hv, hg, hh, hnc, _, hsz, ht⟩
  · omega
  · refine ⟨g, cap, hv, hnc, hg, (Array.getElem?_eq_some_iff.1 hh).1, fun j hj => ?_, fun j => ?_⟩
    · rw [cell_of_row _ _ j cur 3 (0, 0) hh]
      have h3 : (cur.toList.take (l.length * 1))[j]? = some (.int .i64 (l.getD j 0)) := by
        rw [ht, List.getElem?_map, List.getElem?_eq_getElem hj, List.getD_eq_getElem?_getD, List.getElem?_eq_getElem hj]
        rfl
      rw [List.getElem?_take] at h3
      split at h3
      · simpa using h3
      · cases h3
    · unfold World.frozen?; simp only [hh]; simp
theorem Ow.ints (h : Ow w base v l) {lab : Nat → Nat} (hl : ∀ b, base ≤ b → lab b = 0) (hi : ∀ c, c ∈ l → I64 c) (hn : l.length ≤ 1000000) : Ints w lab v l := by
  have hex : ∃ ao cap, v = .slice ao l.length cap ∧ l.length ≤ cap := by
    obtain ⟨-, h2⟩ := h
    rcases h2 with ⟨h3, h4⟩ | ⟨g, cap, cur, hv, -, -, hnc, -⟩
    · exact ⟨none, 0, by rw [h3, h4], by omega⟩
    · exact ⟨_, cap, hv, hnc⟩
  refine ⟨hex, by omega, hi, fun j c hj => ?_⟩
  have hjl : j < l.length := (List.getElem?_eq_some_iff.1 hj).1
  obtain ⟨g, cap, hv, hnc, hg, hlt, hc, -⟩ := h.see (by omega)
  refine ⟨g, 0, l.length, cap, hv, hlt, Or.inl (hl g hg), ?_⟩
  rw [Nat.zero_add, hc j hjl, List.getD_eq_getElem?_getD, hj]
  rfl
theorem Ow.put (h : Ow w base v l) {g cap n : Nat} (hv : v = .slice (some ⟨g, 0, none⟩) n cap) {i : Nat} (hi : i < l.length) (c : Int) : Ow (w.setCell ⟨g, i, none⟩ (.int .i64 (c))) base v (l.set i c) := by
  obtain ⟨h1, h2⟩ := h
  rcases h2 with ⟨_, h2⟩ | ⟨g', cap', cur, hv', hg, hh, hnc, hm, hsz, ht⟩
  · omega
  · rw [hv] at hv'
    simp only [Value.slice.injEq, Option.some.injEq, Addr.mk.injEq, and_true] at hv'
    obtain ⟨rfl, hn, rfl⟩ := hv'
    refine ⟨by simp, Or.inr ⟨g, cap, cur.setIfInBounds i (.int .i64 (c)), by rw [hv, hn, List.length_set], hg, ?_, by rw [List.length_set]; exact hnc, hm, by rw [Array.size_setIfInBounds]; exact hsz, ?_⟩⟩
    · simp only [World.setCell]
      rw [Array.getElem?_modify, if_pos rfl, hh]
      rfl
    · rw [List.length_set, Array.toList_setIfInBounds, List.take_set, ht]
      simp [List.map_set]
theorem Ow.take (h : Ow w base v l) {g cap n : Nat} (hv : v = .slice (some ⟨g, 0, none⟩) n cap) {k : Nat} (hk : k ≤ l.length) : Ow w base (.slice (some ⟨g, 0, none⟩) k cap) (l.take k) := by
  obtain ⟨h1, h2⟩ := h
  have hkl : (l.take k).length = k := by simp; omega
  rcases h2 with ⟨h3, _⟩ | ⟨g', cap', cur, hv', hg, hh, hnc, hm, hsz, ht⟩
  · rw [hv] at h3
    simp at h3
  · rw [hv] at hv'
    simp only [Value.slice.injEq, Option.some.injEq, Addr.mk.injEq, and_true] at hv'
    obtain ⟨rfl, hn, rfl⟩ := hv'
    refine ⟨by simp, Or.inr ⟨g, cap, cur, by rw [hkl], hg, hh, by rw [hkl]; omega, hm, hsz, ?_⟩⟩
    rw [hkl, Nat.mul_one, List.map_take, ← ht, List.take_take, show min k (l.length * 1) = k by omega]
end
/-- 'append(nil, x..)': a copy. -/
theorem wpl_cpy {w : World} {ops : Array Oper} {rest : List Oper} {o : Oper} {a : Act} {Q : Exit → Act → World → Prop} (hgd : o.guard = none) (s x : Operand)
    (ho : o.op = .call { callee := .builtin .append, args := #[s, x], argTypes := #[32, 32] })
    (lab : Nat → Nat) (v : Value) (l : List Int) (hs : a.eval s = .slice none 0 0) (hx : a.eval x = v) (hI : Ints w lab v l) (hl : l.length ≤ 1000000)
    (h : ∀ v' w', Ow w' w.heap.size v' l → Below w.heap.size w w' → wpList Try.prog ops Q rest (a.put o.dst v') w') : wpList Try.prog ops Q (o :: rest) a w := by
  obtain ⟨ao, cap, hv, hlc⟩ := hI.ex
  obtain ⟨i, hi, hz0, hz1, hz2⟩ := info_parts (P := Try.prog) (e := 3) (z := .int .i64 (0)) (size := 1) (bytes := 8) (by kernel_rfl)
  cases ao with
  | none =>
    have hll : l = [] := by
      cases l with
      | nil => rfl
      | cons y l' =>
        obtain ⟨bk, ba, n', cap2, hv2, -, -, -⟩ := hI.row 0 y rfl
        rw [hv] at hv2
        simp only [Value.slice.injEq] at hv2
        cases hv2.1
    subst hll
    have hrun : (Builtin.append_ #[32, 32] o.type #[.slice none 0 0, .slice none 0 cap]).run Try.prog w = .ok (.slice none 0 0) w := by
      simp [Builtin.append_, run_underlying Try.underlying32, sizeOf, typeInfo, hi, Builtin.lenOf, Builtin.firstCells, storeCells]
    have hend := h _ w (Ow.nil w _) (Below.rf w)
    refine wpList_plain hgd fun K hK => ?_
    unfold Oper.wp
    rw [show ([] : List Int).length = 0 from rfl] at hv
    simp [execOp, ho, resolve, invoke, builtin, hs, hx, hv, hrun, Result.andThen]
    exact hK _ _ hend
  | some ad =>
    have had : ∀ (j : Nat) (y : Int), l[j]? = some y → w.cell? (ad.add j) = some (.int .i64 (y)) := fun j y hj => by
      obtain ⟨b2, a2, n2, cap3, e1, e2, -, e3⟩ := hI.row j y hj
      rw [hv] at e1
      simp only [Value.slice.injEq, Option.some.injEq] at e1
      rw [e1.1, Addr.add_lit]
      exact e3
    refine wpList_append_own w hgd s x 32 ho w.heap.size 3 i (.int .i64 (0)) 1 8 Try.underlying32 hi hz0 hz1 hz2 rfl (by omega) _ 0 [] hs (nil_own _ _ _ _) ad l.length cap (l.map (fun y => .int .i64 (y))) (by rw [hx, hv]) (by simp) (fun j u hj => ?_) (fun u hu => ?_) (by simp only [maxLen]; omega) (by omega) (Nat.le_refl _) (fun v' w' h1 h2 _ => ?_)
    · simp at hj
      obtain ⟨y2, hj1, rfl⟩ := hj
      exact had j y2 hj1
    · simp at hu
      obtain ⟨y2, -, rfl⟩ := hu
      rfl
    · refine h v' w' ?_ ((Below.refl w.heap.size w).grown h2 (Nat.le_refl _) (fun k hk => by cases hk))
      rw [Nat.zero_add, List.nil_append] at h1
      exact h1
/-- 'append(s, x..)' onto such a list. -/
theorem wp_oap {w : World} {o : Oper} {a : Act} {K : Act → World → Prop} {Q : Exit → Act → World → Prop} (s x : Operand)
    (ho : o.op = .call { callee := .builtin .append, args := #[s, x], argTypes := #[32, 32] })
    (base : Nat) (v : Value) (l : List Int) (hs : a.eval s = v) (hO : Ow w base v l) (hb : base ≤ w.heap.size) (ad : Addr) (m c : Nat) (l2 : List Int) (hx : a.eval x = .slice (some ad) m c) (hm : l2.length = m) (hc : ∀ (j : Nat) (y : Int), l2[j]? = some y → w.cell? (ad.add j) = some (.int .i64 (y))) (hl : l.length ≤ 1000000 ∧ m ≤ 1000000)
    (h : ∀ v' w', Ow w' base v' (l ++ l2) → w.grownBy w' v.ownBlock → K (a.put o.dst v') w') : Oper.wp Try.prog o a w K Q := by
  obtain ⟨i, hi, hz0, hz1, hz2⟩ := info_parts (P := Try.prog) (e := 3) (z := .int .i64 (0)) (size := 1) (bytes := 8) (by kernel_rfl)
  refine wp_append_own w s x 32 ho base 3 i (.int .i64 (0)) 1 8 Try.underlying32 hi hz0 hz1 hz2 rfl (by omega) _ l.length (l.map (fun y => .int .i64 (y))) hs hO ad m c (l2.map (fun y => .int .i64 (y))) hx (by simp [hm]) (fun j u hj => ?_) (fun u hu => ?_) (by simp only [maxLen]; omega) (by omega) hb (fun v' w' h1 h2 _ => ?_)
  · simp at hj
    obtain ⟨y2, hj1, rfl⟩ := hj
    exact hc j y2 hj1
  · simp at hu
    obtain ⟨y2, -, rfl⟩ := hu
    rfl
  · refine h v' w' ?_ h2
    unfold Ow
    rw [List.length_append, List.map_append, hm]
    exact h1
theorem wpl_oap {w : World} {ops : Array Oper} {rest : List Oper} {o : Oper} {a : Act} {Q : Exit → Act → World → Prop} (hgd : o.guard = none) (s x : Operand)
    (ho : o.op = .call { callee := .builtin .append, args := #[s, x], argTypes := #[32, 32] })
    (base : Nat) (v : Value) (l : List Int) (hs : a.eval s = v) (hO : Ow w base v l) (hb : base ≤ w.heap.size) (ad : Addr) (m c : Nat) (l2 : List Int) (hx : a.eval x = .slice (some ad) m c) (hm : l2.length = m) (hc : ∀ (j : Nat) (y : Int), l2[j]? = some y → w.cell? (ad.add j) = some (.int .i64 (y))) (hl : l.length ≤ 1000000 ∧ m ≤ 1000000)
    (h : ∀ v' w', Ow w' base v' (l ++ l2) → w.grownBy w' v.ownBlock → wpList Try.prog ops Q rest (a.put o.dst v') w') : wpList Try.prog ops Q (o :: rest) a w :=
  wpList_plain hgd fun _ hK => wp_oap s x ho base v l hs hO hb ad m c l2 hx hm hc hl fun v' w' h1 h2 => hK _ _ (h v' w' h1 h2)
end Go.Proofs.Qxb6500716a
