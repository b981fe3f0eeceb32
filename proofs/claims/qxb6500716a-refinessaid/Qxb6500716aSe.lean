/-
  'append([]int{c}, l..)'.
-/
import Derived.Test.Qxb6500716aTm
import Derived.Laws.OwnMore
namespace Go.Proofs.Qxb6500716a
open Go.RowKit Go.Maps
set_option linter.unusedSimpArgs false
set_option linter.unusedVariables false
set_option maxRecDepth 20000
set_option maxHeartbeats 4000000
theorem run_app_zero (w : World) (ty : TypeId) (b : Nat) (c : Nat) : (Builtin.append_ #[32, 32] ty #[.slice (some ⟨b, 0, none⟩) 1 1, .slice none 0 c]).run Try.prog w = .ok (.slice (some ⟨b, 0, none⟩) 1 1) w := by
  obtain ⟨i, hi, hz0, hz1, hz2⟩ := info_parts (P := Try.prog) (e := 3) (z := .int .i64 (0)) (size := 1) (bytes := 8) (by kernel_rfl)
  simp [Builtin.append_, run_underlying Try.underlying32, sizeOf, typeInfo, hi, Builtin.lenOf, Builtin.firstCells, storeCells]
theorem wpl_one {w : World} {ops : Array Oper} {rest : List Oper} {o : Oper} {a : Act} {Q : Exit → Act → World → Prop} (hgd : o.guard = none) (s x : Operand) (ho : o.op = .call { callee := .builtin .append, args := #[s, x], argTypes := #[32, 32] })
    (b : Nat) (c : Int) (lab : Nat → Nat) (v : Value) (l : List Int) (hs : a.eval s = .slice (some ⟨b, 0, none⟩) 1 1) (hx : a.eval x = v) (hb : w.heap[b]? = some (.cells #[.int .i64 (c)] 3 (0, 0))) (hI : Ints w lab v l) (hl : l.length ≤ 1000)
    (h : ∀ (g cap : Nat) (w' : World), b ≤ g → 1 + l.length ≤ cap → g < w'.heap.size → (∀ (j : Nat) (y : Int), (c :: l)[j]? = some y → w'.cell? ⟨g, j, none⟩ = some (.int .i64 (y))) → w.grownBy w' (some b) → wpList Try.prog ops Q rest (a.put o.dst (.slice (some ⟨g, 0, none⟩) (1 + l.length) cap)) w') : wpList Try.prog ops Q (o :: rest) a w := by
  have hblt : b < w.heap.size := (Array.getElem?_eq_some_iff.1 hb).1
  obtain ⟨ao, cap, hv, hlc⟩ := hI.ex
  obtain ⟨i, hi, hz0, hz1, hz2⟩ := info_parts (P := Try.prog) (e := 3) (z := .int .i64 (0)) (size := 1) (bytes := 8) (by kernel_rfl)
  have hown : w.ownsRow b 3 1 (.slice (some ⟨b, 0, none⟩) 1 1) 1 [.int .i64 (c)] := ⟨rfl, Or.inr ⟨b, 1, #[.int .i64 (c)], rfl, Nat.le_refl _, hb, Nat.le_refl _, by simp only [maxLen]; omega, rfl, rfl⟩⟩
  have hend : ∀ (v' : Value) (w' : World), w'.ownsRow b 3 1 v' (1 + l.length) ([.int .i64 (c)] ++ l.map (fun y => .int .i64 (y))) → w.grownBy w' (some b) → wpList Try.prog ops Q rest (a.put o.dst v') w' := fun v' w' h1 h2 => by
    obtain ⟨g, cap', rfl, hnc, hg, hpad⟩ := own_pad h1 (by omega)
    refine h g cap' w' hg hnc hpad.lt (fun j y hj => ?_) h2
    refine hpad.is j _ ?_
    cases j with
    | zero => simp at hj ⊢; exact hj
    | succ j =>
      simp at hj ⊢
      simp [hj]
  cases ao with
  | none =>
    have hll : l = [] := by
      cases l with
      | nil => rfl
      | cons y l' =>
        obtain ⟨bk, ba, n', cap2, hv2, -, -, -⟩ := hI.row 0 y rfl
        rw [hv] at hv2
        simp only [Value.slice.injEq] at hv2
        cases hv2.1
    have hv2 : v = .slice none 0 cap := by rw [hv, hll]; rfl
    have hrun := run_app_zero w o.type b cap
    have hend2 := hend (.slice (some ⟨b, 0, none⟩) 1 1) w (by rw [hll]; exact hown) ⟨rfl, rfl, rfl, Nat.le_refl _, fun k hk _ => rfl⟩
    refine wpList_plain hgd fun K hK => ?_
    unfold Oper.wp
    simp [execOp, ho, resolve, invoke, builtin, hs, hx, hv2, hrun, Result.andThen]
    exact hK _ _ hend2
  | some ad =>
    have had : ∀ (j : Nat) (y : Int), l[j]? = some y → w.cell? (ad.add j) = some (.int .i64 (y)) := fun j y hj => by
      obtain ⟨b2, a2, n2, cap3, e1, e2, -, e3⟩ := hI.row j y hj
      rw [hv] at e1
      simp only [Value.slice.injEq, Option.some.injEq] at e1
      rw [e1.1, Addr.add_lit]
      exact e3
    refine wpList_append_own w hgd s x 32 ho b 3 i (.int .i64 (0)) 1 8 Try.underlying32 hi hz0 hz1 hz2 rfl (by omega) _ 1 [.int .i64 (c)] hs hown ad l.length cap (l.map (fun y => .int .i64 (y))) (by rw [hx, hv]) (by simp) (fun j u hj => ?_) (fun u hu => ?_) (by simp only [maxLen]; omega) (by omega) (by omega) (fun v' w' h1 h2 _ => hend v' w' h1 h2)
    · simp at hj
      obtain ⟨y2, hj1, rfl⟩ := hj
      exact had j y2 hj1
    · simp at hu
      obtain ⟨y2, -, rfl⟩ := hu
      rfl
end Go.Proofs.Qxb6500716a
