/-
  NARROWER THAN 'FOR EVERY INPUT', by the rows' own cells (each row's printed sentence says how): AuditPasses: laid.
  DERIVED. THE GIVEN ROWS OF THIS SEAT. 1 by the template 'for every input the law returns true; each argument reads behind the call as it read before'; 0 by the template 'total and deterministic' (their statements: Qxb6500715aFmtTotals.lean).
  GIVEN WITH THE SEED: the statements are not yours to turn. If you find one false, say at which input.
  Laid BY PROGRAM, IN A SANDBOX (cutbox-rows.mjs): the forced cells as the released guide's own fill.sh prints them over the translation 07af7fbabbff5c46… (all of the seat's roots in one cut). By AI agents, Wed Nov 11 2026. No macro, syntax, notation, axiom, sorry.
-/
import Derived.Test.Qxb6500715aFmtChecked
import GoSem.Claim
import GoSem.ClaimJoined
import GoSem.ClaimMapViews
import Derived.JoinedTies
import Derived.KernelRfl
namespace Go.Proofs.Qxb6500715aFmt
/- THE CELL 'sum', in the pinned program and in every row, IS THE sha256 OF THE DUMP (.gsa) THAT Qxb6500715aFmtProg.lean LOADS. Nothing in Lean hashes anything: it is a label: what it is worth is what the hold of that sum in a sandbox is worth. -/
noncomputable def Tryf.pinned : Pinned := { name := "qxb6500715afmt", sum := "07af7fbabbff5c4668e19930a803d19767f2cf1da95f89e6b9729857b1d5a6cc", checked := Tryf.checked }
namespace Rows
def none {H : Type} : Left H := { results := [], args := [] }

/- WHAT THE LISTED PACKAGE-LEVEL VARIABLES READ AS WHEN THE CALL BEGINS. Each datum BY PROGRAM (the guide's laid-datum.mjs) off the statement by which the dump's own 'gosem.cut.vars' lays the variable. In a bare row this is a premise. The card (Qxb6500715aFmtCards.lean) ties it to the program's text. -/
def laid_e2e_floor_scanDirs {H : Type} : DataW H := .agg [.lit (.int .i64 1), .lit (.int .i64 2), .lit (.int .i64 3), .lit (.int .i64 4)]
def laid_e2e_floor_accepted {H : Type} : DataW H := .agg [.lit (.int .u8 0), .lit (.int .i64 0)]

/-- 'floorlaw.AuditPasses': WHATEVER THE INPUT: true; the input reads as it did. -/
def auditPassesSpec : ChangeSpec := { name := "auditPasses", fn := fun _ => fun
  | [d] => { results := [.lit (.bool true)], args := [d] }
  | _ => none }
def auditPassesRow : OpenClaim := { program := "qxb6500715afmt", sum := "07af7fbabbff5c4668e19930a803d19767f2cf1da95f89e6b9729857b1d5a6cc", func := "e2e/floorlaw.AuditPasses", spec := "auditPasses", stops := ["fmt.errorf"], inPlace := ["fmt.errorf"], unfollowed := true, recurses := true, named := ["e2e/floor.accepted", "e2e/floor.scanDirs"], apart := false, laid := [("e2e/floor.scanDirs", laid_e2e_floor_scanDirs), ("e2e/floor.accepted", laid_e2e_floor_accepted)] }
/-- NO THEOREM (fmt's text is open here; it may be false): for the released tool's asking of the row's closed facts alone. THE STATEMENT IS 'AuditPassesToldSaid' (Qxb6500715aFmtCards.lean). -/
def AuditPassesFormAsk : Prop := auditPassesRow.holds Tryf.pinned (OpenSpec.ofChange auditPassesSpec)

/-- ITS FALSE NEIGHBOUR: 'it returns false'. Refute it at one input. -/
def auditPassesWrong : ChangeSpec := { name := "auditPasses", fn := fun _ => fun
  | [d] => { results := [.lit (.bool false)], args := [d] }
  | _ => none }
def AuditPassesWrongFormAsk : Prop := auditPassesRow.holds Tryf.pinned (OpenSpec.ofChange auditPassesWrong)

end Rows
end Go.Proofs.Qxb6500715aFmt
