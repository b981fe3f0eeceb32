/-
  Refines, plain: the desk's step, by whether it is a request.
-/
import Derived.Test.Qxb6500716aRr
namespace Go.Proofs.Qxb6500716a
open Go.RowKit Go.Maps
set_option linter.unusedSimpArgs false
set_option linter.unusedVariables false
set_option maxRecDepth 20000
set_option maxHeartbeats 4000000
theorem plAns_len (p : Pl) : (plAns p).2.length ≤ 2 := by unfold plAns; split <;> simp
theorem step_len (D : Dk) (o : Opr) : (D.step o).2.2.length ≤ 2 := by
  unfold Dk.step
  split
  · unfold wldAns
    split
    · simp
    · split <;> simp
  · cases D.W with
    | none => simp
    | some X =>
      simp only
      split
      · simp
      split
      · simp
      split
      · simp
      split
      · simp
      split
      · split
        · simp
        · exact plAns_len _
      split
      · split
        · simp
        · exact plAns_len _
      split
      · unfold estAns
        split
        · simp
        split
        · simp
        split
        · simp
        split
        · simp
        split <;> simp
      · simp
theorem step_plain (D : Dk) (o : Opr) (hn : ¬ isRq D o) : (D.step o).2.1 ≠ 5 ∧ (D.step o).1.ask = false := by
  unfold Dk.step
  by_cases h0 : o.K = 0
  · rw [if_pos h0]
    unfold wldAns
    split
    · exact ⟨by simp, rfl⟩
    · split
      · exact ⟨by simp, rfl⟩
      · exact ⟨by simp, rfl⟩
  rw [if_neg h0]
  cases hW : D.W with
  | none => exact ⟨by simp, rfl⟩
  | some X =>
    simp only
    by_cases h1 : o.K = 1
    · rw [if_pos h1]; exact ⟨by simp, rfl⟩
    rw [if_neg h1]
    by_cases h2 : o.K = 2
    · rw [if_pos h2]; exact ⟨by simp, rfl⟩
    rw [if_neg h2]
    by_cases h3 : o.K = 3
    · rw [if_pos h3]; exact ⟨by simp, rfl⟩
    rw [if_neg h3]
    by_cases h4 : o.K = 4
    · rw [if_pos h4]; exact ⟨by simp, rfl⟩
    rw [if_neg h4]
    by_cases h5 : o.K = 5
    · rw [if_pos h5]
      by_cases ho : o.l.length % 2 = 1
      · rw [if_pos ho]; exact ⟨by simp, rfl⟩
      · exact absurd ⟨Or.inl h5, ho, by rw [hW]; simp⟩ hn
    rw [if_neg h5]
    by_cases h6 : o.K = 6
    · rw [if_pos h6]
      by_cases ho : o.l.length % 2 = 1
      · rw [if_pos ho]; exact ⟨by simp, rfl⟩
      · exact absurd ⟨Or.inr h6, ho, by rw [hW]; simp⟩ hn
    rw [if_neg h6]
    by_cases h7 : o.K = 7
    · rw [if_pos h7]
      refine ⟨?_, rfl⟩
      simp only
      unfold estAns
      split
      · simp
      split
      · simp
      split
      · simp
      split
      · simp
      split <;> simp
    · rw [if_neg h7]; exact ⟨by simp, rfl⟩
theorem step_rq (D : Dk) (o : Opr) (X : Wd) (hW : D.W = some X) (hq : isRq D o) (hF : FOk X.F) (hT : TInv X.T) (hC : X.T.Cel) (hnr : X.T.nr = X.F.bays.length) (hnc : X.T.nc = X.F.n) (hms : X.S.ms ≤ 4000000) {code : Nat} {arr : Int} (h : slvR X.F X.T (rqOf o) code arr) :
    ∃ T' S' p, D.step o = (⟨some ⟨X.F, T', S'⟩, true, rqOf o, p⟩, plAns p) ∧ Agr X.F X.T (rqOf o) p T' (mdAns (decide (o.K = 5)) X.T (rqOf o) code arr) ∧ p.t = (rqOf o).t ∧ ((o.K = 5 ∧ (p.c = 0 → T' = (X.T.enter (rqOf o).r (rqOf o).t p.path).2 ∧ (X.T.enter (rqOf o).r (rqOf o).t p.path).1 = 0)) ∨ (o.K = 6 ∧ T' = X.T)) := by
  obtain ⟨hK, hodd, -⟩ := hq
  unfold Dk.step
  rcases hK with hK | hK
  · rw [if_neg (by omega), hW]
    simp only
    rw [if_neg (by omega), if_neg (by omega), if_neg (by omega), if_neg (by omega), if_pos hK, if_neg hodd]
    have hd : decide (o.K = 5) = true := by simp [hK]
    rw [hd]
    obtain ⟨h1, h2⟩ := plan_agr (S := X.S) hF hT hC hnr hnc hms h
    exact ⟨_, _, _, rfl, h1, (plan_pl (T := X.T) (q := rqOf o) hF hms).t, Or.inl ⟨hK, h2⟩⟩
  · rw [if_neg (by omega), hW]
    simp only
    rw [if_neg (by omega), if_neg (by omega), if_neg (by omega), if_neg (by omega), if_neg (by omega), if_pos hK, if_neg hodd]
    have hd : decide (o.K = 5) = false := by simp [hK]
    rw [hd]
    exact ⟨_, _, _, rfl, ask_agr (S := X.S) hF hT hC hnr hnc hms h, (search_pl (T := X.T) (q := rqOf o) hF hms).t, Or.inr ⟨hK, rfl⟩⟩
end Go.Proofs.Qxb6500716a
