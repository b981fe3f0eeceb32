/-
  No cell of these rows narrows 'for every input' (looked for: loops, veiled, ifaces, maps, wideKeys, modest, calm, conditions, laid).
  DERIVED. THE GIVEN ROWS OF THIS SEAT. 1 by the template 'for every input the law returns true; each argument reads behind the call as it read before'; 0 by the template 'total and deterministic' (their statements: Qxb6500717aGreatTotals.lean).
  GIVEN WITH THE SEED: the statements are not yours to turn. If you find one false, say at which input.
  Laid BY PROGRAM, IN A SANDBOX (cutbox-rows.mjs): the forced cells as the released guide's own fill.sh prints them over the translation 8bf37d8b58d1fd4f… (all of the seat's roots in one cut). By AI agents, Wed Nov 11 2026. No macro, syntax, notation, axiom, sorry.
-/
import Derived.Test.Qxb6500717aGreatChecked
import GoSem.Claim
import GoSem.ClaimJoined
import GoSem.ClaimMapViews
import Derived.JoinedTies
import Derived.KernelRfl
namespace Go.Proofs.Qxb6500717aGreat
/- THE CELL 'sum', in the pinned program and in every row, IS THE sha256 OF THE DUMP (.gsa) THAT Qxb6500717aGreatProg.lean LOADS. Nothing in Lean hashes anything: it is a label: what it is worth is what the hold of that sum in a sandbox is worth. -/
noncomputable def Tryz.pinned : Pinned := { name := "qxb6500717agreat", sum := "8bf37d8b58d1fd4fef5ce0a9d1da1a0c8b0197e6b64cff2acd0d6f204ae408fc", checked := Tryz.checked }
namespace Rows
def none {H : Type} : Left H := { results := [], args := [] }

/-- 'resvlaw.TableIsTripleList': WHATEVER THE INPUT: true; the input reads as it did. -/
def tableIsTripleListSpec : ChangeSpec := { name := "tableIsTripleList", fn := fun _ => fun
  | [d] => { results := [.lit (.bool true)], args := [d] }
  | _ => none }
def tableIsTripleListRow : OpenClaim := { program := "qxb6500717agreat", sum := "8bf37d8b58d1fd4fef5ce0a9d1da1a0c8b0197e6b64cff2acd0d6f204ae408fc", func := "e2e/resvlaw.TableIsTripleList", spec := "tableIsTripleList", inPlace := ["internal/reflectlite.ValueOf", "internal/reflectlite.Swapper", "(internal/reflectlite.Value).Len"], unfollowed := true, recurses := true, apart := false }
def TableIsTripleListSaid : Prop := tableIsTripleListRow.holds Tryz.pinned (OpenSpec.ofChange tableIsTripleListSpec)

/-- ITS FALSE NEIGHBOUR: 'it returns false'. Refute it at one input. -/
def tableIsTripleListWrong : ChangeSpec := { name := "tableIsTripleList", fn := fun _ => fun
  | [d] => { results := [.lit (.bool false)], args := [d] }
  | _ => none }
def TableIsTripleListWrongFalsely : Prop := tableIsTripleListRow.holds Tryz.pinned (OpenSpec.ofChange tableIsTripleListWrong)

end Rows
end Go.Proofs.Qxb6500717aGreat
