/-
  DERIVED. GIVEN WITH THE SEED: THE PROGRAM's TIES (one call each: nine closed facts by the kernel) AND EACH ROW's TIE, after the 31st guide's Derived/Test/Toyas{Tie, Card}.lean. No idea stands in it: it is a product of the set-up. Laid BY PROGRAM, IN A SANDBOX (cutbox-door.mjs). By AI agents, Wed Nov 11 2026. No macro, syntax, notation, axiom, sorry.
-/
import Derived.Test.Qxb6500715aFmtRows
import Derived.LaidByTextLater
import Derived.SevenTiedAt
import Derived.LaidSub
import Derived.LaidOnce
namespace Go.Proofs.Qxb6500715aFmt
open Go
set_option maxRecDepth 100000
theorem seatTie1 : Tryf.prog.laidByTextLater [("e2e/floor.scanDirs", Rows.laid_e2e_floor_scanDirs), ("e2e/floor.accepted", Rows.laid_e2e_floor_accepted)] [.data, .data] true :=
  Program.laidByTextLater_by_one 19 8 5 (by kernel_rfl) (by kernel_rfl) (by kernel_rfl) (by kernel_rfl) (by kernel_rfl) (by kernel_rfl) (fun _ _ => by kernel_rfl)
theorem noOwnUnsafe : Tryf.pinned.checked.prog.headLifts.contains "ownunsafe" = false := by kernel_rfl
theorem tie : Tryf.prog.laidByTextLater [("e2e/floor.scanDirs", Rows.laid_e2e_floor_scanDirs), ("e2e/floor.accepted", Rows.laid_e2e_floor_accepted)] [.data, .data] true :=
  Program.laidByTextLater.sub seatTie1 ["e2e/floor.scanDirs", "e2e/floor.accepted"] (by kernel_rfl) (by kernel_rfl)
theorem auditPasses_row_tie : Rows.auditPassesRow.laidByTextAt .later Tryf.pinned [.data, .data] true :=
  OpenClaim.laidByTextAt_later rfl rfl tie noOwnUnsafe
end Go.Proofs.Qxb6500715aFmt
