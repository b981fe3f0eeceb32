/-
  Plain: the table's base only grows; every floor has neighbours.
-/
import Derived.Test.Qxb6500716aUn
import Derived.Test.Qxb6500716aNn
namespace Go.Proofs.Qxb6500716a
open Go.RowKit Go.Maps
set_option linter.unusedSimpArgs false
set_option linter.unusedVariables false
set_option maxRecDepth 20000
set_option maxHeartbeats 4000000
theorem reserve_base (T : TS) (r c t : Int) : (T.reserve r c t).2.base = T.base := by
  unfold TS.reserve
  split
  · rfl
  split
  · rfl
  split
  · rfl
  split
  · rfl
  split
  · rfl
  · rfl
theorem pathGo_base (T0 : TS) (r s : Int) : ∀ (l : List Int) (i : Nat) (T : TS), T.base = T0.base → (T0.pathGo r s i l T).2.2.base = T0.base
  | [], i, T, h => h
  | c :: l, i, T, h => by
    rw [TS.pathGo]
    split
    · rfl
    · exact pathGo_base T0 r s l (i + 1) _ ((reserve_base T r c (s + i)).trans h)
theorem path_base (T : TS) (r s : Int) (l : List Int) : (T.path r s l).2.2.base = T.base := pathGo_base T r s l 0 T rfl
theorem stand_base (T : TS) (r c t : Int) : (T.stand r c t).2.base = T.base := by
  unfold TS.stand TS.stand3
  split
  · rfl
  split
  · rfl
  split
  · rfl
  split
  · rfl
  split
  · rfl
  · rfl
theorem cutC_base (T : TS) (r t : Int) : (T.cutC r t).2.2.base = T.base := by
  unfold TS.cutC
  split
  · rfl
  · rfl
theorem enter_base (T : TS) (r t : Int) (path : List Int) : (T.enter r t path).2.base = T.base := by
  unfold TS.enter
  split
  · rfl
  split
  · exact path_base _ _ _ _
  split
  · exact (stand_base _ _ _ _).trans (path_base _ _ _ _)
  · exact (stand_base _ _ _ _).trans (path_base _ _ _ _)
theorem plan_base (F : FS) (T : TS) (q : Rq) (S : PS) : (PS.plan F T q S).2.1.base = T.base := by
  unfold PS.plan
  split
  · exact enter_base _ _ _ _
  · rfl
theorem adv_base (T : TS) (t : Int) : T.base ≤ (T.adv t).2.base := by
  unfold TS.adv
  split
  · exact Nat.le_refl _
  · split
    · exact Nat.le_refl _
    · show T.base ≤ t.toNat
      omega
/-- A step within a world. -/
theorem step_on (D : Dk) (o : Opr) (h0 : o.K ≠ 0) (X : Wd) (hW : D.W = some X) : ∃ Y, (D.step o).1.W = some Y ∧ Y.F = X.F ∧ X.T.base ≤ Y.T.base := by
  have hn : D.no.W = some X := hW
  unfold Dk.step
  rw [if_neg h0, hW]
  simp only
  split
  · exact ⟨_, rfl, rfl, adv_base _ _⟩
  split
  · exact ⟨_, rfl, rfl, Nat.le_of_eq (path_base _ _ _ _).symm⟩
  split
  · exact ⟨_, rfl, rfl, Nat.le_of_eq (stand_base _ _ _ _).symm⟩
  split
  · exact ⟨_, rfl, rfl, Nat.le_of_eq (cutC_base _ _ _).symm⟩
  split
  · split
    · exact ⟨X, hn, rfl, Nat.le_refl _⟩
    · exact ⟨_, rfl, rfl, Nat.le_of_eq (plan_base _ _ _ _).symm⟩
  split
  · split
    · exact ⟨X, hn, rfl, Nat.le_refl _⟩
    · exact ⟨_, rfl, rfl, Nat.le_refl _⟩
  split
  · exact ⟨X, hn, rfl, Nat.le_refl _⟩
  · exact ⟨X, hn, rfl, Nat.le_refl _⟩
theorem step_off (D : Dk) (o : Opr) (h0 : o.K ≠ 0) (hW : D.W = none) : (D.step o).1.W = none := by
  unfold Dk.step
  rw [if_neg h0, hW]
  exact hW
/-- Every cell of every world has a neighbour. -/
def Dk.nbs (D : Dk) : Prop := ∀ X, D.W = some X → ∀ a, a < X.F.n → X.F.near a ≠ []
theorem step_nbs (D : Dk) (o : Opr) (h : D.nbs) : (D.step o).1.nbs := by
  intro Y hY
  by_cases h0 : o.K = 0
  · unfold Dk.step at hY
    rw [if_pos h0] at hY
    unfold wldAns at hY
    split at hY
    · exact h Y hY
    · rename_i F hF
      split at hY
      · exact h Y hY
      · simp only [Option.some.injEq] at hY
        rw [← hY]
        exact fun a ha => new_near hF a ha
  · cases hW : D.W with
    | none =>
      rw [step_off D o h0 hW] at hY
      cases hY
    | some X =>
      obtain ⟨Z, h1, h2, -⟩ := step_on D o h0 X hW
      rw [h1] at hY
      obtain rfl := Option.some.inj hY
      rw [h2]
      exact h X hW
end Go.Proofs.Qxb6500716a
