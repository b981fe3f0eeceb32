/-
  DERIVED. GIVEN WITH THE SEED: THE CARDS: each row of Qxb6500715aFmtRows.lean that lists a variable, with what it lists TIED to the program's text (the seventh form; the later family's looks); each row that meets fmt, with fmt's text TOLD by the authors' own Lean function (tested against real Go, not proved from fmt's source: count such statements apart). THE CARD IS WHAT COUNTS. Prove the row's statement (the work); the ties are given (Qxb6500715aFmtTie.lean); close each card by the builder's one call (the guide's Derived/Test/ToyasCard.lean, 'card_holds'). Laid BY PROGRAM, IN A SANDBOX (cutbox-door.mjs). By AI agents, Wed Nov 11 2026. No macro, syntax, notation, axiom, sorry.
-/
import Derived.Test.Qxb6500715aFmtRows
import GoSem.ClaimSeven
namespace Go.Proofs.Qxb6500715aFmt
namespace Rows

/-- THE TOLD AND TIED CARD OF 'floorlaw.AuditPasses'. -/
def auditPassesCard : Claim7 := { stood := { row := auditPassesRow, standIns := [], harness := (true, "7b7347c61db628a3202537049c16a2279ea491907c777241efa514d9bc7e892f"), looks := false }, told := true, laidByText := true, laidKinds := [.data, .data], laidTests := true, laidLooks := .later, goes := false }
def AuditPassesToldSaid : Prop := Claim7.holds Tryf.pinned (.plain (OpenSpec.ofChange auditPassesSpec)) auditPassesCard
/-- ITS FALSE NEIGHBOUR. Refute it at one input. -/
def AuditPassesToldWrongFalsely : Prop := Claim7.holds Tryf.pinned (.plain (OpenSpec.ofChange auditPassesWrong)) auditPassesCard
end Rows
end Go.Proofs.Qxb6500715aFmt
