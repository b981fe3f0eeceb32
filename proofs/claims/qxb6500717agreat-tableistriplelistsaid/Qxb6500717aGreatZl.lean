/-
  modelState's two 'less'.
-/
import Derived.Test.Qxb6500717aGreatProg
import Derived.Test.Qxb6500717aGreatReg
import Derived.Deep.RegionHeld3
namespace Go.Proofs.Qxb6500717aGreat
open Go.RowKit
set_option linter.unusedSimpArgs false
set_option linter.unusedVariables false
set_option maxRecDepth 20000 in
set_option maxHeartbeats 4000000 in
theorem less62 (blk Bs n c i j : Nat) (a0 a1 a2 b0 b1 b2 : Int) (W : World) (hs : W.cell? ⟨Bs, 2, none⟩ = some (.slice (some ⟨blk, 0, none⟩) n c)) (hB : Bs < W.heap.size) (hb : blk < W.heap.size) (hi : i < n) (hj : j < n) (hn : n ≤ 1000000000000)
    (p0 : W.cell? ⟨blk, i * 3, none⟩ = some (.int .i64 (a0))) (p1 : W.cell? ⟨blk, i * 3 + 1, none⟩ = some (.int .i64 (a1))) (p2 : W.cell? ⟨blk, i * 3 + 2, none⟩ = some (.int .i64 (a2)))
    (q0 : W.cell? ⟨blk, j * 3, none⟩ = some (.int .i64 (b0))) (q1 : W.cell? ⟨blk, j * 3 + 1, none⟩ = some (.int .i64 (b1))) (q2 : W.cell? ⟨blk, j * 3 + 2, none⟩ = some (.int .i64 (b2))) :
    Calls Tryz.prog 62 #[.int .i64 (i), .int .i64 (j), .pointer (some ⟨Bs, 0, none⟩)] W fun e w' => e = .returned (.bool (decide (a0 < b0 ∨ (a0 = b0 ∧ a2 < b2)))) ∧ Below W.heap.size W w' := by
  by_cases h0 : a0 < b0
  · rw [decide_eq_true (Or.inl h0)]
    go_enter Tryz.func62, Tryz.ntmps62
    go_wp2
    go_region_held3 (fun w' => w'.cell? ⟨Bs, 2, none⟩ = some (.slice (some ⟨blk, 0, none⟩) n c) ∧ w'.cell? ⟨blk, i * 3, none⟩ = some (.int .i64 (a0)) ∧ w'.cell? ⟨blk, i * 3 + 1, none⟩ = some (.int .i64 (a1)) ∧ w'.cell? ⟨blk, i * 3 + 2, none⟩ = some (.int .i64 (a2)) ∧ w'.cell? ⟨blk, j * 3, none⟩ = some (.int .i64 (b0)) ∧ w'.cell? ⟨blk, j * 3 + 1, none⟩ = some (.int .i64 (b1)) ∧ w'.cell? ⟨blk, j * 3 + 2, none⟩ = some (.int .i64 (b2))) (simp [go_sem, ↓IntWalk.iteOmega, *]) (fail)
    all_goals clear hs p0 q0 p1 q1 p2 q2
    all_goals (go_wp2; go_ret; refine ⟨by first | rfl | (show Ending.returned (Value.bool (decide (a0 < b0) || decide (a2 < b2))) = _; rw [NDH.out]; rfl) | (show Ending.returned (Value.bool (decide (a0 < b0))) = _; rw [NDH.out]), ?_⟩; (repeat (first | with_reducible exact Below.rf _ | with_reducible exact World.below_ext _ _ | with_reducible refine Below.ex ?_ _ | with_reducible refine Below.al ?_ _ | with_reducible refine Below.setCell ?_ (by simp) _ | with_reducible refine Below.drew ?_)))
  · have NDH := hid (show decide (a0 < b0) = false from decide_eq_false h0)
    by_cases e0 : a0 = b0
    · have n1 : (a0 == b0) = true := by simp [e0]
      rw [show decide (a0 < b0 ∨ (a0 = b0 ∧ a2 < b2)) = decide (a2 < b2) from by simp [e0]]
      clear e0
      go_enter Tryz.func62, Tryz.ntmps62
      go_wp2
      go_region_held3 (fun w' => w'.cell? ⟨Bs, 2, none⟩ = some (.slice (some ⟨blk, 0, none⟩) n c) ∧ w'.cell? ⟨blk, i * 3, none⟩ = some (.int .i64 (a0)) ∧ w'.cell? ⟨blk, i * 3 + 1, none⟩ = some (.int .i64 (a1)) ∧ w'.cell? ⟨blk, i * 3 + 2, none⟩ = some (.int .i64 (a2)) ∧ w'.cell? ⟨blk, j * 3, none⟩ = some (.int .i64 (b0)) ∧ w'.cell? ⟨blk, j * 3 + 1, none⟩ = some (.int .i64 (b1)) ∧ w'.cell? ⟨blk, j * 3 + 2, none⟩ = some (.int .i64 (b2))) (simp [go_sem, ↓IntWalk.iteOmega, *]) (fail)
      all_goals clear hs p0 q0 p1 q1 p2 q2
      all_goals (go_wp2; go_ret; refine ⟨by first | rfl | (show Ending.returned (Value.bool (decide (a0 < b0) || decide (a2 < b2))) = _; rw [NDH.out]; rfl) | (show Ending.returned (Value.bool (decide (a0 < b0))) = _; rw [NDH.out]), ?_⟩; (repeat (first | with_reducible exact Below.rf _ | with_reducible exact World.below_ext _ _ | with_reducible refine Below.ex ?_ _ | with_reducible refine Below.al ?_ _ | with_reducible refine Below.setCell ?_ (by simp) _ | with_reducible refine Below.drew ?_)))
    · have n1 : (a0 == b0) = false := by simp [e0]
      rw [show decide (a0 < b0 ∨ (a0 = b0 ∧ a2 < b2)) = false from by simp [e0]; omega]
      clear e0
      go_enter Tryz.func62, Tryz.ntmps62
      go_wp2
      go_region_held3 (fun w' => w'.cell? ⟨Bs, 2, none⟩ = some (.slice (some ⟨blk, 0, none⟩) n c) ∧ w'.cell? ⟨blk, i * 3, none⟩ = some (.int .i64 (a0)) ∧ w'.cell? ⟨blk, i * 3 + 1, none⟩ = some (.int .i64 (a1)) ∧ w'.cell? ⟨blk, i * 3 + 2, none⟩ = some (.int .i64 (a2)) ∧ w'.cell? ⟨blk, j * 3, none⟩ = some (.int .i64 (b0)) ∧ w'.cell? ⟨blk, j * 3 + 1, none⟩ = some (.int .i64 (b1)) ∧ w'.cell? ⟨blk, j * 3 + 2, none⟩ = some (.int .i64 (b2))) (simp [go_sem, ↓IntWalk.iteOmega, *]) (fail)
      all_goals clear hs p0 q0 p1 q1 p2 q2
      all_goals (go_wp2; go_ret; refine ⟨by first | rfl | (show Ending.returned (Value.bool (decide (a0 < b0) || decide (a2 < b2))) = _; rw [NDH.out]; rfl) | (show Ending.returned (Value.bool (decide (a0 < b0))) = _; rw [NDH.out]), ?_⟩; (repeat (first | with_reducible exact Below.rf _ | with_reducible exact World.below_ext _ _ | with_reducible refine Below.ex ?_ _ | with_reducible refine Below.al ?_ _ | with_reducible refine Below.setCell ?_ (by simp) _ | with_reducible refine Below.drew ?_)))
set_option maxRecDepth 20000 in
set_option maxHeartbeats 4000000 in
theorem less63 (blk Bs n c i j : Nat) (a0 a1 a2 a3 b0 b1 b2 b3 : Int) (W : World) (hs : W.cell? ⟨Bs, 3, none⟩ = some (.slice (some ⟨blk, 0, none⟩) n c)) (hB : Bs < W.heap.size) (hb : blk < W.heap.size) (hi : i < n) (hj : j < n) (hn : n ≤ 1000000000000)
    (p0 : W.cell? ⟨blk, i * 4, none⟩ = some (.int .i64 (a0))) (p1 : W.cell? ⟨blk, i * 4 + 1, none⟩ = some (.int .i64 (a1))) (p2 : W.cell? ⟨blk, i * 4 + 2, none⟩ = some (.int .i64 (a2))) (p3 : W.cell? ⟨blk, i * 4 + 3, none⟩ = some (.int .i64 (a3)))
    (q0 : W.cell? ⟨blk, j * 4, none⟩ = some (.int .i64 (b0))) (q1 : W.cell? ⟨blk, j * 4 + 1, none⟩ = some (.int .i64 (b1))) (q2 : W.cell? ⟨blk, j * 4 + 2, none⟩ = some (.int .i64 (b2))) (q3 : W.cell? ⟨blk, j * 4 + 3, none⟩ = some (.int .i64 (b3))) :
    Calls Tryz.prog 63 #[.int .i64 (i), .int .i64 (j), .pointer (some ⟨Bs, 0, none⟩)] W fun e w' => e = .returned (.bool (decide (a0 < b0 ∨ (a0 = b0 ∧ a2 < b2)))) ∧ Below W.heap.size W w' := by
  by_cases h0 : a0 < b0
  · rw [decide_eq_true (Or.inl h0)]
    go_enter Tryz.func63, Tryz.ntmps63
    go_wp2
    go_region_held3 (fun w' => w'.cell? ⟨Bs, 3, none⟩ = some (.slice (some ⟨blk, 0, none⟩) n c) ∧ w'.cell? ⟨blk, i * 4, none⟩ = some (.int .i64 (a0)) ∧ w'.cell? ⟨blk, i * 4 + 1, none⟩ = some (.int .i64 (a1)) ∧ w'.cell? ⟨blk, i * 4 + 2, none⟩ = some (.int .i64 (a2)) ∧ w'.cell? ⟨blk, i * 4 + 3, none⟩ = some (.int .i64 (a3)) ∧ w'.cell? ⟨blk, j * 4, none⟩ = some (.int .i64 (b0)) ∧ w'.cell? ⟨blk, j * 4 + 1, none⟩ = some (.int .i64 (b1)) ∧ w'.cell? ⟨blk, j * 4 + 2, none⟩ = some (.int .i64 (b2)) ∧ w'.cell? ⟨blk, j * 4 + 3, none⟩ = some (.int .i64 (b3))) (simp [go_sem, ↓IntWalk.iteOmega, *]) (fail)
    all_goals clear hs p0 q0 p1 q1 p2 q2 p3 q3
    all_goals (go_wp2; go_ret; refine ⟨by first | rfl | (show Ending.returned (Value.bool (decide (a0 < b0) || decide (a2 < b2))) = _; rw [NDH.out]; rfl) | (show Ending.returned (Value.bool (decide (a0 < b0))) = _; rw [NDH.out]), ?_⟩; (repeat (first | with_reducible exact Below.rf _ | with_reducible exact World.below_ext _ _ | with_reducible refine Below.ex ?_ _ | with_reducible refine Below.al ?_ _ | with_reducible refine Below.setCell ?_ (by simp) _ | with_reducible refine Below.drew ?_)))
  · have NDH := hid (show decide (a0 < b0) = false from decide_eq_false h0)
    by_cases e0 : a0 = b0
    · have n1 : (a0 == b0) = true := by simp [e0]
      rw [show decide (a0 < b0 ∨ (a0 = b0 ∧ a2 < b2)) = decide (a2 < b2) from by simp [e0]]
      clear e0
      go_enter Tryz.func63, Tryz.ntmps63
      go_wp2
      go_region_held3 (fun w' => w'.cell? ⟨Bs, 3, none⟩ = some (.slice (some ⟨blk, 0, none⟩) n c) ∧ w'.cell? ⟨blk, i * 4, none⟩ = some (.int .i64 (a0)) ∧ w'.cell? ⟨blk, i * 4 + 1, none⟩ = some (.int .i64 (a1)) ∧ w'.cell? ⟨blk, i * 4 + 2, none⟩ = some (.int .i64 (a2)) ∧ w'.cell? ⟨blk, i * 4 + 3, none⟩ = some (.int .i64 (a3)) ∧ w'.cell? ⟨blk, j * 4, none⟩ = some (.int .i64 (b0)) ∧ w'.cell? ⟨blk, j * 4 + 1, none⟩ = some (.int .i64 (b1)) ∧ w'.cell? ⟨blk, j * 4 + 2, none⟩ = some (.int .i64 (b2)) ∧ w'.cell? ⟨blk, j * 4 + 3, none⟩ = some (.int .i64 (b3))) (simp [go_sem, ↓IntWalk.iteOmega, *]) (fail)
      all_goals clear hs p0 q0 p1 q1 p2 q2 p3 q3
      all_goals (go_wp2; go_ret; refine ⟨by first | rfl | (show Ending.returned (Value.bool (decide (a0 < b0) || decide (a2 < b2))) = _; rw [NDH.out]; rfl) | (show Ending.returned (Value.bool (decide (a0 < b0))) = _; rw [NDH.out]), ?_⟩; (repeat (first | with_reducible exact Below.rf _ | with_reducible exact World.below_ext _ _ | with_reducible refine Below.ex ?_ _ | with_reducible refine Below.al ?_ _ | with_reducible refine Below.setCell ?_ (by simp) _ | with_reducible refine Below.drew ?_)))
    · have n1 : (a0 == b0) = false := by simp [e0]
      rw [show decide (a0 < b0 ∨ (a0 = b0 ∧ a2 < b2)) = false from by simp [e0]; omega]
      clear e0
      go_enter Tryz.func63, Tryz.ntmps63
      go_wp2
      go_region_held3 (fun w' => w'.cell? ⟨Bs, 3, none⟩ = some (.slice (some ⟨blk, 0, none⟩) n c) ∧ w'.cell? ⟨blk, i * 4, none⟩ = some (.int .i64 (a0)) ∧ w'.cell? ⟨blk, i * 4 + 1, none⟩ = some (.int .i64 (a1)) ∧ w'.cell? ⟨blk, i * 4 + 2, none⟩ = some (.int .i64 (a2)) ∧ w'.cell? ⟨blk, i * 4 + 3, none⟩ = some (.int .i64 (a3)) ∧ w'.cell? ⟨blk, j * 4, none⟩ = some (.int .i64 (b0)) ∧ w'.cell? ⟨blk, j * 4 + 1, none⟩ = some (.int .i64 (b1)) ∧ w'.cell? ⟨blk, j * 4 + 2, none⟩ = some (.int .i64 (b2)) ∧ w'.cell? ⟨blk, j * 4 + 3, none⟩ = some (.int .i64 (b3))) (simp [go_sem, ↓IntWalk.iteOmega, *]) (fail)
      all_goals clear hs p0 q0 p1 q1 p2 q2 p3 q3
      all_goals (go_wp2; go_ret; refine ⟨by first | rfl | (show Ending.returned (Value.bool (decide (a0 < b0) || decide (a2 < b2))) = _; rw [NDH.out]; rfl) | (show Ending.returned (Value.bool (decide (a0 < b0))) = _; rw [NDH.out]), ?_⟩; (repeat (first | with_reducible exact Below.rf _ | with_reducible exact World.below_ext _ _ | with_reducible refine Below.ex ?_ _ | with_reducible refine Below.al ?_ _ | with_reducible refine Below.setCell ?_ (by simp) _ | with_reducible refine Below.drew ?_)))
end Go.Proofs.Qxb6500717aGreat
