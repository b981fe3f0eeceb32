/-
  No cell of these rows narrows 'for every input' (looked for: loops, veiled, ifaces, maps, wideKeys, modest, calm, conditions, laid).
  DERIVED. THE GIVEN ROWS OF THIS SEAT. 6 by the template 'for every input the law returns true; each argument reads behind the call as it read before'; 0 by the template 'total and deterministic' (their statements: Qxb6500717aTotals.lean).
  GIVEN WITH THE SEED: the statements are not yours to turn. If you find one false, say at which input.
  Laid BY PROGRAM, IN A SANDBOX (cutbox-rows.mjs): the forced cells as the released guide's own fill.sh prints them over the translation 03f234b93bf372a7… (all of the seat's roots in one cut). By AI agents, Wed Nov 11 2026. No macro, syntax, notation, axiom, sorry.
-/
import Derived.Test.Qxb6500717aChecked
import GoSem.Claim
import GoSem.ClaimJoined
import GoSem.ClaimMapViews
import Derived.JoinedTies
import Derived.KernelRfl
namespace Go.Proofs.Qxb6500717a
/- THE CELL 'sum', in the pinned program and in every row, IS THE sha256 OF THE DUMP (.gsa) THAT Qxb6500717aProg.lean LOADS. Nothing in Lean hashes anything: it is a label: what it is worth is what the hold of that sum in a sandbox is worth. -/
noncomputable def Try.pinned : Pinned := { name := "qxb6500717a", sum := "03f234b93bf372a761ca4e166952b0f450fe7146b350e1a70bee5407f755b6eb", checked := Try.checked }
namespace Rows
def none {H : Type} : Left H := { results := [], args := [] }

/-- 'resvlaw.Refines': WHATEVER THE INPUT: true; the input reads as it did. -/
def refinesSpec : ChangeSpec := { name := "refines", fn := fun _ => fun
  | [d] => { results := [.lit (.bool true)], args := [d] }
  | _ => none }
def refinesRow : OpenClaim := { program := "qxb6500717a", sum := "03f234b93bf372a761ca4e166952b0f450fe7146b350e1a70bee5407f755b6eb", func := "e2e/resvlaw.Refines", spec := "refines", apart := false }
def RefinesSaid : Prop := refinesRow.holds Try.pinned (OpenSpec.ofChange refinesSpec)

/-- ITS FALSE NEIGHBOUR: 'it returns false'. Refute it at one input. -/
def refinesWrong : ChangeSpec := { name := "refines", fn := fun _ => fun
  | [d] => { results := [.lit (.bool false)], args := [d] }
  | _ => none }
def RefinesWrongFalsely : Prop := refinesRow.holds Try.pinned (OpenSpec.ofChange refinesWrong)

/-- 'resvlaw.NoConflicts': WHATEVER THE INPUT: true; the input reads as it did. -/
def noConflictsSpec : ChangeSpec := { name := "noConflicts", fn := fun _ => fun
  | [d] => { results := [.lit (.bool true)], args := [d] }
  | _ => none }
def noConflictsRow : OpenClaim := { program := "qxb6500717a", sum := "03f234b93bf372a761ca4e166952b0f450fe7146b350e1a70bee5407f755b6eb", func := "e2e/resvlaw.NoConflicts", spec := "noConflicts", apart := false }
def NoConflictsSaid : Prop := noConflictsRow.holds Try.pinned (OpenSpec.ofChange noConflictsSpec)

/-- ITS FALSE NEIGHBOUR: 'it returns false'. Refute it at one input. -/
def noConflictsWrong : ChangeSpec := { name := "noConflicts", fn := fun _ => fun
  | [d] => { results := [.lit (.bool false)], args := [d] }
  | _ => none }
def NoConflictsWrongFalsely : Prop := noConflictsRow.holds Try.pinned (OpenSpec.ofChange noConflictsWrong)

/-- 'resvlaw.HeapOrdered': WHATEVER THE INPUT: true; the input reads as it did. -/
def heapOrderedSpec : ChangeSpec := { name := "heapOrdered", fn := fun _ => fun
  | [d] => { results := [.lit (.bool true)], args := [d] }
  | _ => none }
def heapOrderedRow : OpenClaim := { program := "qxb6500717a", sum := "03f234b93bf372a761ca4e166952b0f450fe7146b350e1a70bee5407f755b6eb", func := "e2e/resvlaw.HeapOrdered", spec := "heapOrdered", inPlace := ["internal/reflectlite.ValueOf", "internal/reflectlite.Swapper", "(internal/reflectlite.Value).Len"], unfollowed := true, recurses := true, apart := false }
def HeapOrderedSaid : Prop := heapOrderedRow.holds Try.pinned (OpenSpec.ofChange heapOrderedSpec)

/-- ITS FALSE NEIGHBOUR: 'it returns false'. Refute it at one input. -/
def heapOrderedWrong : ChangeSpec := { name := "heapOrdered", fn := fun _ => fun
  | [d] => { results := [.lit (.bool false)], args := [d] }
  | _ => none }
def HeapOrderedWrongFalsely : Prop := heapOrderedRow.holds Try.pinned (OpenSpec.ofChange heapOrderedWrong)

/-- 'resvlaw.RefusalsChangeNothing': WHATEVER THE INPUT: true; the input reads as it did. -/
def refusalsChangeNothingSpec : ChangeSpec := { name := "refusalsChangeNothing", fn := fun _ => fun
  | [d] => { results := [.lit (.bool true)], args := [d] }
  | _ => none }
def refusalsChangeNothingRow : OpenClaim := { program := "qxb6500717a", sum := "03f234b93bf372a761ca4e166952b0f450fe7146b350e1a70bee5407f755b6eb", func := "e2e/resvlaw.RefusalsChangeNothing", spec := "refusalsChangeNothing", apart := false }
def RefusalsChangeNothingSaid : Prop := refusalsChangeNothingRow.holds Try.pinned (OpenSpec.ofChange refusalsChangeNothingSpec)

/-- ITS FALSE NEIGHBOUR: 'it returns false'. Refute it at one input. -/
def refusalsChangeNothingWrong : ChangeSpec := { name := "refusalsChangeNothing", fn := fun _ => fun
  | [d] => { results := [.lit (.bool false)], args := [d] }
  | _ => none }
def RefusalsChangeNothingWrongFalsely : Prop := refusalsChangeNothingRow.holds Try.pinned (OpenSpec.ofChange refusalsChangeNothingWrong)

/-- 'resvlaw.HeldWithinCapacity': WHATEVER THE INPUT: true; the input reads as it did. -/
def heldWithinCapacitySpec : ChangeSpec := { name := "heldWithinCapacity", fn := fun _ => fun
  | [d] => { results := [.lit (.bool true)], args := [d] }
  | _ => none }
def heldWithinCapacityRow : OpenClaim := { program := "qxb6500717a", sum := "03f234b93bf372a761ca4e166952b0f450fe7146b350e1a70bee5407f755b6eb", func := "e2e/resvlaw.HeldWithinCapacity", spec := "heldWithinCapacity", apart := false }
def HeldWithinCapacitySaid : Prop := heldWithinCapacityRow.holds Try.pinned (OpenSpec.ofChange heldWithinCapacitySpec)

/-- ITS FALSE NEIGHBOUR: 'it returns false'. Refute it at one input. -/
def heldWithinCapacityWrong : ChangeSpec := { name := "heldWithinCapacity", fn := fun _ => fun
  | [d] => { results := [.lit (.bool false)], args := [d] }
  | _ => none }
def HeldWithinCapacityWrongFalsely : Prop := heldWithinCapacityRow.holds Try.pinned (OpenSpec.ofChange heldWithinCapacityWrong)

/-- 'resvlaw.QueriesForetellReservations': WHATEVER THE INPUT: true; the input reads as it did. -/
def queriesForetellReservationsSpec : ChangeSpec := { name := "queriesForetellReservations", fn := fun _ => fun
  | [d] => { results := [.lit (.bool true)], args := [d] }
  | _ => none }
def queriesForetellReservationsRow : OpenClaim := { program := "qxb6500717a", sum := "03f234b93bf372a761ca4e166952b0f450fe7146b350e1a70bee5407f755b6eb", func := "e2e/resvlaw.QueriesForetellReservations", spec := "queriesForetellReservations", apart := false }
def QueriesForetellReservationsSaid : Prop := queriesForetellReservationsRow.holds Try.pinned (OpenSpec.ofChange queriesForetellReservationsSpec)

/-- ITS FALSE NEIGHBOUR: 'it returns false'. Refute it at one input. -/
def queriesForetellReservationsWrong : ChangeSpec := { name := "queriesForetellReservations", fn := fun _ => fun
  | [d] => { results := [.lit (.bool false)], args := [d] }
  | _ => none }
def QueriesForetellReservationsWrongFalsely : Prop := queriesForetellReservationsRow.holds Try.pinned (OpenSpec.ofChange queriesForetellReservationsWrong)

end Rows
end Go.Proofs.Qxb6500717a
