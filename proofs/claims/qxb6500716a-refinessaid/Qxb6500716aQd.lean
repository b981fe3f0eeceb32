/-
  ok (of the laws and of the model): the walks.
-/
import Derived.Test.Qxb6500716aQc
namespace Go.Proofs.Qxb6500716a
open Go.RowKit Go.Maps
set_option linter.unusedSimpArgs false
set_option linter.unusedVariables false
set_option maxRecDepth 20000
set_option maxHeartbeats 4000000

theorem ok49_any (ao : Option Addr) (n cap : Nat) (w : World) : Calls Try.prog 49 #[.slice ao n cap] w fun e w' => e = .returned (.agg #[.int .u8 0, .slice ao n cap]) ∧ ∃ z, w' = w.ext z := by
  go_enter Try.func49, Try.ntmps49
  go_wp2
  refine bodyPost_ret (v := .agg #[.int .u8 0, .slice ao n cap]) (by simp [results, Try.results49, go_sem, ↓IntWalk.iteOmega]) rfl ?_
  refine ⟨rfl, ?_⟩
  refine Below.is_ext ?_
  repeat (first | with_reducible exact Below.rf _ | with_reducible exact World.below_ext _ _ | with_reducible refine Below.ex ?_ _ | with_reducible refine Below.al ?_ _ | with_reducible refine Below.setCell ?_ (by simp) _ | with_reducible refine Below.drew ?_)
theorem ok54_any (ao : Option Addr) (n cap : Nat) (w : World) : Calls Try.prog 54 #[.slice ao n cap] w fun e w' => e = .returned (.agg #[.int .u8 0, .slice ao n cap]) ∧ ∃ z, w' = w.ext z := by
  go_enter Try.func54, Try.ntmps54
  go_wp2
  refine bodyPost_ret (v := .agg #[.int .u8 0, .slice ao n cap]) (by simp [results, Try.results54, go_sem, ↓IntWalk.iteOmega]) rfl ?_
  refine ⟨rfl, ?_⟩
  refine Below.is_ext ?_
  repeat (first | with_reducible exact Below.rf _ | with_reducible exact World.below_ext _ _ | with_reducible refine Below.ex ?_ _ | with_reducible refine Below.al ?_ _ | with_reducible refine Below.setCell ?_ (by simp) _ | with_reducible refine Below.drew ?_)
end Go.Proofs.Qxb6500716a
