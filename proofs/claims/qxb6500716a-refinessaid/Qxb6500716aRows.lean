/-
  No cell of these rows narrows 'for every input' (looked for: loops, veiled, ifaces, maps, wideKeys, modest, calm, conditions, laid).
  DERIVED. THE GIVEN ROWS OF THIS SEAT. 8 by the template 'for every input the law returns true; each argument reads behind the call as it read before'; 0 by the template 'total and deterministic' (their statements: Qxb6500716aTotals.lean).
  GIVEN WITH THE SEED: the statements are not yours to turn. If you find one false, say at which input.
  Laid BY PROGRAM, IN A SANDBOX (cutbox-rows.mjs): the forced cells as the released guide's own fill.sh prints them over the translation c86c22b91394c8d9… (all of the seat's roots in one cut). By AI agents, Wed Nov 11 2026. No macro, syntax, notation, axiom, sorry.
-/
import Derived.Test.Qxb6500716aChecked
import GoSem.Claim
import GoSem.ClaimJoined
import GoSem.ClaimMapViews
import Derived.JoinedTies
import Derived.KernelRfl
namespace Go.Proofs.Qxb6500716a
/- THE CELL 'sum', in the pinned program and in every row, IS THE sha256 OF THE DUMP (.gsa) THAT Qxb6500716aProg.lean LOADS. Nothing in Lean hashes anything: it is a label: what it is worth is what the hold of that sum in a sandbox is worth. -/
noncomputable def Try.pinned : Pinned := { name := "qxb6500716a", sum := "c86c22b91394c8d9a2ce20e8f1d1b3196d76b4ca95bf69973153d279c7596bc0", checked := Try.checked }
namespace Rows
def none {H : Type} : Left H := { results := [], args := [] }

/-- 'plannerlaw.Refines': WHATEVER THE INPUT: true; the input reads as it did. -/
def refinesSpec : ChangeSpec := { name := "refines", fn := fun _ => fun
  | [d] => { results := [.lit (.bool true)], args := [d] }
  | _ => none }
def refinesRow : OpenClaim := { program := "qxb6500716a", sum := "c86c22b91394c8d9a2ce20e8f1d1b3196d76b4ca95bf69973153d279c7596bc0", func := "e2e/plannerlaw.Refines", spec := "refines", unfollowed := true, recurses := true, plainKeys := false, apart := false }
def RefinesSaid : Prop := refinesRow.holds Try.pinned (OpenSpec.ofChange refinesSpec)

/-- ITS FALSE NEIGHBOUR: 'it returns false'. Refute it at one input. -/
def refinesWrong : ChangeSpec := { name := "refines", fn := fun _ => fun
  | [d] => { results := [.lit (.bool false)], args := [d] }
  | _ => none }
def RefinesWrongFalsely : Prop := refinesRow.holds Try.pinned (OpenSpec.ofChange refinesWrong)

/-- 'plannerlaw.PlansAreValid': WHATEVER THE INPUT: true; the input reads as it did. -/
def plansAreValidSpec : ChangeSpec := { name := "plansAreValid", fn := fun _ => fun
  | [d] => { results := [.lit (.bool true)], args := [d] }
  | _ => none }
def plansAreValidRow : OpenClaim := { program := "qxb6500716a", sum := "c86c22b91394c8d9a2ce20e8f1d1b3196d76b4ca95bf69973153d279c7596bc0", func := "e2e/plannerlaw.PlansAreValid", spec := "plansAreValid", plainKeys := false, apart := false }
def PlansAreValidSaid : Prop := plansAreValidRow.holds Try.pinned (OpenSpec.ofChange plansAreValidSpec)

/-- ITS FALSE NEIGHBOUR: 'it returns false'. Refute it at one input. -/
def plansAreValidWrong : ChangeSpec := { name := "plansAreValid", fn := fun _ => fun
  | [d] => { results := [.lit (.bool false)], args := [d] }
  | _ => none }
def PlansAreValidWrongFalsely : Prop := plansAreValidRow.holds Try.pinned (OpenSpec.ofChange plansAreValidWrong)

/-- 'plannerlaw.EstimateIsAdmissibleAndConsistent': WHATEVER THE INPUT: true; the input reads as it did. -/
def estimateIsAdmissibleAndConsistentSpec : ChangeSpec := { name := "estimateIsAdmissibleAndConsistent", fn := fun _ => fun
  | [d] => { results := [.lit (.bool true)], args := [d] }
  | _ => none }
def estimateIsAdmissibleAndConsistentRow : OpenClaim := { program := "qxb6500716a", sum := "c86c22b91394c8d9a2ce20e8f1d1b3196d76b4ca95bf69973153d279c7596bc0", func := "e2e/plannerlaw.EstimateIsAdmissibleAndConsistent", spec := "estimateIsAdmissibleAndConsistent", plainKeys := false, apart := false }
def EstimateIsAdmissibleAndConsistentSaid : Prop := estimateIsAdmissibleAndConsistentRow.holds Try.pinned (OpenSpec.ofChange estimateIsAdmissibleAndConsistentSpec)

/-- ITS FALSE NEIGHBOUR: 'it returns false'. Refute it at one input. -/
def estimateIsAdmissibleAndConsistentWrong : ChangeSpec := { name := "estimateIsAdmissibleAndConsistent", fn := fun _ => fun
  | [d] => { results := [.lit (.bool false)], args := [d] }
  | _ => none }
def EstimateIsAdmissibleAndConsistentWrongFalsely : Prop := estimateIsAdmissibleAndConsistentRow.holds Try.pinned (OpenSpec.ofChange estimateIsAdmissibleAndConsistentWrong)

/-- 'plannerlaw.ArrivalIsEarliest': WHATEVER THE INPUT: true; the input reads as it did. -/
def arrivalIsEarliestSpec : ChangeSpec := { name := "arrivalIsEarliest", fn := fun _ => fun
  | [d] => { results := [.lit (.bool true)], args := [d] }
  | _ => none }
def arrivalIsEarliestRow : OpenClaim := { program := "qxb6500716a", sum := "c86c22b91394c8d9a2ce20e8f1d1b3196d76b4ca95bf69973153d279c7596bc0", func := "e2e/plannerlaw.ArrivalIsEarliest", spec := "arrivalIsEarliest", plainKeys := false, apart := false }
def ArrivalIsEarliestSaid : Prop := arrivalIsEarliestRow.holds Try.pinned (OpenSpec.ofChange arrivalIsEarliestSpec)

/-- ITS FALSE NEIGHBOUR: 'it returns false'. Refute it at one input. -/
def arrivalIsEarliestWrong : ChangeSpec := { name := "arrivalIsEarliest", fn := fun _ => fun
  | [d] => { results := [.lit (.bool false)], args := [d] }
  | _ => none }
def ArrivalIsEarliestWrongFalsely : Prop := arrivalIsEarliestRow.holds Try.pinned (OpenSpec.ofChange arrivalIsEarliestWrong)

/-- 'plannerlaw.FailureIsExplicitAndHarmless': WHATEVER THE INPUT: true; the input reads as it did. -/
def failureIsExplicitAndHarmlessSpec : ChangeSpec := { name := "failureIsExplicitAndHarmless", fn := fun _ => fun
  | [d] => { results := [.lit (.bool true)], args := [d] }
  | _ => none }
def failureIsExplicitAndHarmlessRow : OpenClaim := { program := "qxb6500716a", sum := "c86c22b91394c8d9a2ce20e8f1d1b3196d76b4ca95bf69973153d279c7596bc0", func := "e2e/plannerlaw.FailureIsExplicitAndHarmless", spec := "failureIsExplicitAndHarmless", plainKeys := false, apart := false }
def FailureIsExplicitAndHarmlessSaid : Prop := failureIsExplicitAndHarmlessRow.holds Try.pinned (OpenSpec.ofChange failureIsExplicitAndHarmlessSpec)

/-- ITS FALSE NEIGHBOUR: 'it returns false'. Refute it at one input. -/
def failureIsExplicitAndHarmlessWrong : ChangeSpec := { name := "failureIsExplicitAndHarmless", fn := fun _ => fun
  | [d] => { results := [.lit (.bool false)], args := [d] }
  | _ => none }
def FailureIsExplicitAndHarmlessWrongFalsely : Prop := failureIsExplicitAndHarmlessRow.holds Try.pinned (OpenSpec.ofChange failureIsExplicitAndHarmlessWrong)

/-- 'plannerlaw.EnteredPlanIsInTable': WHATEVER THE INPUT: true; the input reads as it did. -/
def enteredPlanIsInTableSpec : ChangeSpec := { name := "enteredPlanIsInTable", fn := fun _ => fun
  | [d] => { results := [.lit (.bool true)], args := [d] }
  | _ => none }
def enteredPlanIsInTableRow : OpenClaim := { program := "qxb6500716a", sum := "c86c22b91394c8d9a2ce20e8f1d1b3196d76b4ca95bf69973153d279c7596bc0", func := "e2e/plannerlaw.EnteredPlanIsInTable", spec := "enteredPlanIsInTable", plainKeys := false, apart := false }
def EnteredPlanIsInTableSaid : Prop := enteredPlanIsInTableRow.holds Try.pinned (OpenSpec.ofChange enteredPlanIsInTableSpec)

/-- ITS FALSE NEIGHBOUR: 'it returns false'. Refute it at one input. -/
def enteredPlanIsInTableWrong : ChangeSpec := { name := "enteredPlanIsInTable", fn := fun _ => fun
  | [d] => { results := [.lit (.bool false)], args := [d] }
  | _ => none }
def EnteredPlanIsInTableWrongFalsely : Prop := enteredPlanIsInTableRow.holds Try.pinned (OpenSpec.ofChange enteredPlanIsInTableWrong)

/-- 'plannerlaw.VerifyAgrees': WHATEVER THE INPUT: true; the input reads as it did. -/
def verifyAgreesSpec : ChangeSpec := { name := "verifyAgrees", fn := fun _ => fun
  | [d] => { results := [.lit (.bool true)], args := [d] }
  | _ => none }
def verifyAgreesRow : OpenClaim := { program := "qxb6500716a", sum := "c86c22b91394c8d9a2ce20e8f1d1b3196d76b4ca95bf69973153d279c7596bc0", func := "e2e/plannerlaw.VerifyAgrees", spec := "verifyAgrees", unfollowed := true, recurses := true, plainKeys := false, apart := false }
def VerifyAgreesSaid : Prop := verifyAgreesRow.holds Try.pinned (OpenSpec.ofChange verifyAgreesSpec)

/-- ITS FALSE NEIGHBOUR: 'it returns false'. Refute it at one input. -/
def verifyAgreesWrong : ChangeSpec := { name := "verifyAgrees", fn := fun _ => fun
  | [d] => { results := [.lit (.bool false)], args := [d] }
  | _ => none }
def VerifyAgreesWrongFalsely : Prop := verifyAgreesRow.holds Try.pinned (OpenSpec.ofChange verifyAgreesWrong)

/-- 'plannerlaw.StatsCount': WHATEVER THE INPUT: true; the input reads as it did. -/
def statsCountSpec : ChangeSpec := { name := "statsCount", fn := fun _ => fun
  | [d] => { results := [.lit (.bool true)], args := [d] }
  | _ => none }
def statsCountRow : OpenClaim := { program := "qxb6500716a", sum := "c86c22b91394c8d9a2ce20e8f1d1b3196d76b4ca95bf69973153d279c7596bc0", func := "e2e/plannerlaw.StatsCount", spec := "statsCount", plainKeys := false, apart := false }
def StatsCountSaid : Prop := statsCountRow.holds Try.pinned (OpenSpec.ofChange statsCountSpec)

/-- ITS FALSE NEIGHBOUR: 'it returns false'. Refute it at one input. -/
def statsCountWrong : ChangeSpec := { name := "statsCount", fn := fun _ => fun
  | [d] => { results := [.lit (.bool false)], args := [d] }
  | _ => none }
def StatsCountWrongFalsely : Prop := statsCountRow.holds Try.pinned (OpenSpec.ofChange statsCountWrong)

end Rows
end Go.Proofs.Qxb6500716a
