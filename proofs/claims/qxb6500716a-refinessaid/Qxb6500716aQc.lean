/-
  Stats: the walk.
-/
import Derived.Test.Qxb6500716aQb
namespace Go.Proofs.Qxb6500716a
open Go.RowKit Go.Maps
set_option linter.unusedSimpArgs false
set_option linter.unusedVariables false
set_option maxRecDepth 20000
set_option maxHeartbeats 4000000

theorem stats_any (N : PM) (S : PS) (n fb tb : Nat) (lab : Nat → Nat) (w : World) (hP : PAt w lab N fb tb S n) :
    Calls Try.prog 45 #[.pointer (some ⟨N.p, 0, none⟩)] w fun e w' => e = .returned (.agg #[.int .i64 (S.st 0), .int .i64 (S.st 1), .int .i64 (S.st 2), .int .i64 (S.st 3), .int .i64 (S.st 4), .int .i64 (S.st 5), .int .i64 (S.st 6), .int .i64 (S.st 7), .int .i64 (S.st 8), .int .i64 (S.st 9), .int .i64 (S.st 10)]) ∧ ∃ z, w' = w.ext z := by
  have c0 : w.cell? ⟨N.p, 5, none⟩ = some (.int .i64 (S.st 0)) := hP.bp.is 5 (by omega)
  have c1 : w.cell? ⟨N.p, 6, none⟩ = some (.int .i64 (S.st 1)) := hP.bp.is 6 (by omega)
  have c2 : w.cell? ⟨N.p, 7, none⟩ = some (.int .i64 (S.st 2)) := hP.bp.is 7 (by omega)
  have c3 : w.cell? ⟨N.p, 8, none⟩ = some (.int .i64 (S.st 3)) := hP.bp.is 8 (by omega)
  have c4 : w.cell? ⟨N.p, 9, none⟩ = some (.int .i64 (S.st 4)) := hP.bp.is 9 (by omega)
  have c5 : w.cell? ⟨N.p, 10, none⟩ = some (.int .i64 (S.st 5)) := hP.bp.is 10 (by omega)
  have c6 : w.cell? ⟨N.p, 11, none⟩ = some (.int .i64 (S.st 6)) := hP.bp.is 11 (by omega)
  have c7 : w.cell? ⟨N.p, 12, none⟩ = some (.int .i64 (S.st 7)) := hP.bp.is 12 (by omega)
  have c8 : w.cell? ⟨N.p, 13, none⟩ = some (.int .i64 (S.st 8)) := hP.bp.is 13 (by omega)
  have c9 : w.cell? ⟨N.p, 14, none⟩ = some (.int .i64 (S.st 9)) := hP.bp.is 14 (by omega)
  have c10 : w.cell? ⟨N.p, 15, none⟩ = some (.int .i64 (S.st 10)) := hP.bp.is 15 (by omega)
  have hpl := hP.bp.lt
  clear hP
  go_enter Try.func45, Try.ntmps45
  go_wp2
  refine bodyPost_ret (v := .agg #[.int .i64 (S.st 0), .int .i64 (S.st 1), .int .i64 (S.st 2), .int .i64 (S.st 3), .int .i64 (S.st 4), .int .i64 (S.st 5), .int .i64 (S.st 6), .int .i64 (S.st 7), .int .i64 (S.st 8), .int .i64 (S.st 9), .int .i64 (S.st 10)]) (by simp [results, Try.results45, go_sem, ↓IntWalk.iteOmega]) rfl ?_
  refine ⟨rfl, ?_⟩
  refine Below.is_ext ?_
  repeat (first | with_reducible exact Below.rf _ | with_reducible exact World.below_ext _ _ | with_reducible refine Below.ex ?_ _ | with_reducible refine Below.al ?_ _ | with_reducible refine Below.setCell ?_ (by simp) _ | with_reducible refine Below.drew ?_)
end Go.Proofs.Qxb6500716a
