/-
  Truncate refused; NewTable.
-/
import Derived.Test.Qxb6500716aTi
namespace Go.Proofs.Qxb6500716a
open Go.RowKit Go.Maps
set_option linter.unusedSimpArgs false
set_option linter.unusedVariables false
set_option maxRecDepth 20000
set_option maxHeartbeats 4000000

theorem trunc_bad (M : TM) (T : TS) (lab : Nat → Nat) (r t : Int) (w : World) (h : TAt w lab M T) (hr : T.rOk r = false) :
    Calls Try.prog 52 #[.pointer (some ⟨M.t, 0, none⟩), .int .i64 (r), .int .i64 (t)] w fun e w' => e = .returned (.tuple #[.int .i64 (0), .int .i64 (1)]) ∧ w' = w := by
  have VR : Hid (Calls Try.prog 78 #[.pointer (some ⟨M.t, 0, none⟩), .int .i64 (r)] w fun e w' => e = .returned (.bool (T.rOk r)) ∧ w' = w) := isRobot_any M T lab r w h
  rw [hr] at VR
  have hlt := h.bt.lt
  clear h hr
  go_enter Try.func52, Try.ntmps52
  go_wp2_with (first | (go_at_call 78; refine VR.out.mono ?_; rintro e w ⟨rfl, rfl⟩))
  go_ret2
  exact ⟨rfl, rfl⟩

/-- A table with nothing in it. -/
def TS.new (nc nr cap : Nat) : TS := ⟨nc, nr, cap, 0, fun _ _ => none, []⟩
def newPost (lab : Nat → Nat) (T : TS) (w : World) (e : Ending) (w' : World) : Prop :=
  ∃ (lab' : Nat → Nat) (M : TM), e = .returned (.pointer (some ⟨M.t, 0, none⟩)) ∧ TAt w' lab' M T ∧ w.heap.size ≤ M.t ∧ w.heap.size ≤ M.m ∧ (∀ k, k < w.heap.size → lab' k = lab k) ∧ Below w.heap.size w w'
theorem newTable_any (nc nr cap : Nat) (lab : Nat → Nat) (w : World) (hc : 1 ≤ nc ∧ nc ≤ 999) (hr : 1 ≤ nr ∧ nr ≤ 6) (hp : cap ≤ 1536) :
    Calls Try.prog 47 #[.int .i64 (nc), .int .i64 (nr), .int .i64 (cap)] w (newPost lab (TS.new nc nr cap) w) := by
  have hmm := @run_makeMap Try.prog
  go_enter Try.func47, Try.ntmps47
  go_wp2
  go_ret
  refine ⟨fun b => if b < w.heap.size then lab b else if b = w.heap.size then 3 else 2, ⟨w.heap.size + 1, w.heap.size, .slice none 0 0⟩, rfl, ⟨⟨hc, hr, hp, by simp [TS.new], by simp [TS.new], ?_⟩, ?_, ?_, LAt.nil _ _ _ _, by simp; omega, by simp⟩, by simp, by simp, fun k hk => if_pos hk, ?_⟩
  · unfold TS.held TS.new
    simp only
    rw [cntM_empty]
    simp
  · refine ⟨by simp, fun i hi => ?_, fun i hi => by simp [go_sem, ↓IntWalk.iteOmega]⟩
    rcases (by omega : i = 0 ∨ i = 1 ∨ i = 2 ∨ i = 3 ∨ i = 4 ∨ i = 5) with rfl | rfl | rfl | rfl | rfl | rfl <;> simp [go_sem, ↓IntWalk.iteOmega, tcell, TS.new]
  · exact (MAt.made w).below ((Below.rf _).al _)
  · (repeat (first | with_reducible exact Below.rf _ | with_reducible exact World.below_ext _ _ | with_reducible refine Below.ex ?_ _ | with_reducible refine Below.al ?_ _ | with_reducible refine Below.setCell ?_ (by simp) _ | with_reducible refine Below.drew ?_))
end Go.Proofs.Qxb6500716a
