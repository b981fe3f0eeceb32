/-
  Refines, plain: the planner's answer to a request and the model's.
-/
import Derived.Test.Qxb6500716aMk
import Derived.Test.Qxb6500716aVg
namespace Go.Proofs.Qxb6500716a
open Go.RowKit Go.Maps
set_option linter.unusedSimpArgs false
set_option linter.unusedVariables false
set_option maxRecDepth 20000
set_option maxHeartbeats 4000000
section
variable {F : FS} {T : TS} {q : Rq} {S : PS}
/-- The room test of the model is that of the planner. -/
theorem room_iff (hr : T.rOk q.r = true) (n : Nat) (arr : Int) (ha : q.t + (n : Int) - 1 = arr) : (((T.trunc q.r q.t).held : Int) + (arr - q.t) + 1 ≤ (T.cap : Int)) ↔ ¬ ((T.cap : Int) - (T.held : Int) + T.remov q.r q.t < (n : Int)) := by
  unfold TS.remov
  rw [if_pos hr]
  omega
/-- How the two answers hang together: alike, or the planner has come to its limit. -/
structure Agr (F : FS) (T : TS) (q : Rq) (p : Pl) (T' : TS) (a : Nat × List Int) : Prop where
  ok : (plAns p = a ∧ p.c ≠ 5) ∨ (p.c = 5 ∧ rcode F T q = 0 ∧ a.1 ≠ 2 ∧ a.1 ≠ 3 ∧ q.m < q.states F T)
  no : p.c ≠ 0 → T' = T
  fd : p.c = 0 → Found F T q p
theorem ask_agr (hF : FOk F) (hT : TInv T) (hC : T.Cel) (hnr : T.nr = F.bays.length) (hnc : T.nc = F.n) (hms : S.ms ≤ 4000000) {code : Nat} {arr : Int} (h : slvR F T q code arr) : Agr F T q (PS.ask F T q S).2 T (mdAns false T q code arr) := by
  have e : (PS.ask F T q S).2 = (PS.search F T q S).2 := rfl
  rw [e]
  have hpl := search_pl (T := T) (q := q) hF hms
  refine ⟨?_, fun _ => rfl, fun hc => search_good hF hms hc⟩
  rcases search_slv (S := S) hF hT hC hnr hnc h with ⟨h1, h2⟩ | ⟨h1, h2, h3, h4⟩
  · left
    unfold plAns mdAns
    rw [h1, hpl.t]
    by_cases hc : code = 0
    · subst hc
      rw [if_neg (by simp), if_neg (by simp), if_neg (by simp), ← h2 rfl]
      exact ⟨rfl, by simp⟩
    · rw [if_pos hc, if_pos hc]
      refine ⟨rfl, ?_⟩
      rcases h with ⟨-, h3, -⟩ | ⟨-, ⟨-, h3, -⟩ | ⟨-, h3⟩⟩
      · omega
      · omega
      · rcases h3.ex with ⟨h4, -⟩ | ⟨h4, -⟩ <;> omega
  · right
    refine ⟨h1, h2, ?_, ?_, h4⟩
    · unfold mdAns
      rcases h3 with rfl | rfl <;> simp
    · unfold mdAns
      rcases h3 with rfl | rfl <;> simp
theorem plan_agr (hF : FOk F) (hT : TInv T) (hC : T.Cel) (hnr : T.nr = F.bays.length) (hnc : T.nc = F.n) (hms : S.ms ≤ 4000000) {code : Nat} {arr : Int} (h : slvR F T q code arr) : Agr F T q (PS.plan F T q S).2.2 (PS.plan F T q S).2.1 (mdAns true T q code arr) ∧ ((PS.plan F T q S).2.2.c = 0 → (PS.plan F T q S).2.1 = (T.enter q.r q.t (PS.plan F T q S).2.2.path).2 ∧ (T.enter q.r q.t (PS.plan F T q S).2.2.path).1 = 0) := by
  have hpl := search_pl (T := T) (q := q) hF hms
  rcases search_slv (S := S) hF hT hC hnr hnc h with ⟨h1, h2⟩ | ⟨h1, h2, h3, h4⟩
  · by_cases hc : code = 0
    · subst hc
      have hfd := search_good hF hms h1
      have hrk := rok_of hF hfd.rc
      have hro : T.rOk q.r = true := by
        have := hrk.r
        unfold TS.rOk
        simp
        omega
      have hri := room_iff hro (PS.search F T q S).2.path.length arr (h2 rfl)
      by_cases hrm : ((T.trunc q.r q.t).held : Int) + (arr - q.t) + 1 ≤ (T.cap : Int)
      · have he := enter_ok hF hT hnr hnc hfd (hri.1 hrm)
        have hp : (PS.plan F T q S).2 = ((T.enter q.r q.t (PS.search F T q S).2.path).2, (PS.search F T q S).2) := by
          unfold PS.plan
          rw [if_pos h1]
          unfold entP
          rw [if_neg (by rw [he]; simp)]
        rw [hp]
        simp only
        refine ⟨⟨Or.inl ⟨?_, by rw [h1]; simp⟩, fun hn => absurd h1 hn, fun _ => hfd⟩, fun _ => ⟨trivial, he⟩⟩
        unfold plAns mdAns
        rw [h1, hpl.t, if_neg (by simp), if_neg (by simp), if_neg (fun hx => hx.2 hrm), ← h2 rfl]
      · have hrm2 : (T.cap : Int) - (T.held : Int) + T.remov q.r q.t < ((PS.search F T q S).2.path.length : Int) := by
          by_cases hx : (T.cap : Int) - (T.held : Int) + T.remov q.r q.t < ((PS.search F T q S).2.path.length : Int)
          · exact hx
          · exact absurd (hri.2 hx) hrm
        have he : T.enter q.r q.t (PS.search F T q S).2.path = (6, T) := by
          unfold TS.enter
          rw [if_pos hrm2]
        have hp : (PS.plan F T q S).2 = (T, Pl.fail q.t 6 (PS.search F T q S).2.x) := by
          unfold PS.plan
          rw [if_pos h1, he]
          unfold entP
          rw [if_pos (by simp)]
        rw [hp]
        simp only
        refine ⟨⟨Or.inl ⟨?_, by simp [Pl.fail]⟩, fun _ => rfl, fun hn => by simp [Pl.fail] at hn⟩, fun hn => by simp [Pl.fail] at hn⟩
        have ha : mdAns true T q 0 arr = (6, []) := by unfold mdAns; rw [if_neg (by simp), if_pos ⟨rfl, hrm⟩]
        rw [ha]
        simp [plAns, Pl.fail]
    · have hcn : (PS.search F T q S).2.c ≠ 0 := by rw [h1]; exact hc
      have hp : (PS.plan F T q S).2 = (T, (PS.search F T q S).2) := by
        unfold PS.plan
        rw [if_neg hcn]
      rw [hp]
      simp only
      refine ⟨⟨Or.inl ⟨?_, ?_⟩, fun _ => rfl, fun hn => absurd hn hcn⟩, fun hn => absurd hn hcn⟩
      · unfold plAns mdAns
        rw [h1, if_pos hc, if_pos hc]
      · rw [h1]
        rcases h with ⟨-, h3, -⟩ | ⟨-, ⟨-, h3, -⟩ | ⟨-, h3⟩⟩
        · omega
        · omega
        · rcases h3.ex with ⟨h4, -⟩ | ⟨h4, -⟩ <;> omega
  · have hcn : (PS.search F T q S).2.c ≠ 0 := by rw [h1]; simp
    have hp : (PS.plan F T q S).2 = (T, (PS.search F T q S).2) := by
      unfold PS.plan
      rw [if_neg hcn]
    rw [hp]
    simp only
    refine ⟨⟨Or.inr ⟨h1, h2, ?_, ?_, h4⟩, fun _ => rfl, fun hn => absurd hn hcn⟩, fun hn => absurd hn hcn⟩
    · unfold mdAns
      rcases h3 with rfl | rfl
      · rw [if_neg (by simp)]
        split <;> simp
      · simp
    · unfold mdAns
      rcases h3 with rfl | rfl
      · rw [if_neg (by simp)]
        split <;> simp
      · simp
end
end Go.Proofs.Qxb6500716a
