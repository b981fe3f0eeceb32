/-
  The empty script.
-/
import Derived.Test.Qxb6500715aFmtLaw8
namespace Go.Proofs.Qxb6500715aFmt
open Go.RowKit
set_option linter.unusedSimpArgs false
set_option linter.unusedVariables false

theorem small_none0 (ao : Option Addr) (cap : Nat) (w : World) : Calls Tryf.prog 4 #[.slice ao 0 cap] w fun e w' => e = .returned (.bool true) ∧ w' = w := by
  go_enter Tryf.func4, Tryf.ntmps4
  go_wp2
  refine wp_loop_once ?_
  go_wp2
  go_ret
  exact ⟨rfl, rfl⟩

theorem floors_none (ao : Option Addr) (cap : Nat) (w : World) : Calls Tryf.prog 5 #[.slice ao 0 cap] w fun e w' => e = .returned (.slice none 0 0) ∧ w' = w := by
  go_enter Tryf.func5, Tryf.ntmps5
  go_wp2
  refine wp_loop_once ?_
  go_wp2
  go_ret
  exact ⟨rfl, rfl⟩
end Go.Proofs.Qxb6500715aFmt
