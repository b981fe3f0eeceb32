/-
  planner.New: the walk.
-/
import Derived.Test.Qxb6500716aPz
namespace Go.Proofs.Qxb6500716a
open Go.RowKit Go.Maps
set_option linter.unusedSimpArgs false
set_option linter.unusedVariables false
set_option maxRecDepth 20000
set_option maxHeartbeats 4000000

/-- A planner that has done nothing. -/
theorem seen_nil : (fun _ : Int => False) = (fun _ : Int => false = true) := by funext x; simp
def PS.new : PS := ⟨[], [], 0, fun _ => false, fun _ => 0⟩
def newPPost (lab : Nat → Nat) (fb tb : Nat) (w : World) (e : Ending) (w' : World) : Prop :=
  ∃ (lab' : Nat → Nat) (N : PM), e = .returned (.pointer (some ⟨N.p, 0, none⟩)) ∧ PAt w' lab' N fb tb PS.new 0 ∧ w.heap.size ≤ N.p ∧ (∀ k, k < w.heap.size → lab' k = lab k) ∧ Below w.heap.size w w'
theorem newP_any (fb tb : Nat) (lab : Nat → Nat) (w : World) : Calls Try.prog 37 #[.pointer (some ⟨fb, 0, none⟩), .pointer (some ⟨tb, 0, none⟩)] w (newPPost lab fb tb w) := by
  have MN := hid (mnew_any 0 w)
  go_enter Try.func37, Try.ntmps37
  go_wp2_with (first | (go_at_call 66; refine MN.out.mono ?_; rintro e w1 ⟨mk, mm, rfl, h1, h2, h3, hb, hk⟩))
  go_ret
  have hs := hb.size
  have hmk : mk < w1.heap.size := (hk (fun b => if b = mk then 8 else 9) (by simp) (by simp [h3.symm])).bk.lt
  have hmm : mm < w1.heap.size := (hk (fun b => if b = mk then 8 else 9) (by simp) (by simp [h3.symm])).bm.lt
  have hKA := hk (fun b => if b < w.heap.size then lab b else if b = mk then 8 else if b = mm then 9 else 5) (by simp [show ¬ mk < w.heap.size by omega]) (by simp [show ¬ mm < w.heap.size by omega, h3.symm])
  refine ⟨_, ⟨w1.heap.size, .slice none 0 0, .slice none 0 0, mk, mm⟩, rfl, ⟨⟨by simp, fun i hi => ?_, fun i hi => by simp [go_sem, ↓IntWalk.iteOmega]⟩, LAt.nil _ _ _ _, LAt.nil _ _ _ _, by rw [seen_nil] at hKA; exact hKA.below ((Below.rf _).al _), ?_⟩, hs, fun k hk => if_pos hk, hb.trans (((Below.rf _).al _).mono hs)⟩
  · rcases (by omega : i = 0 ∨ i = 1 ∨ i = 2 ∨ i = 3 ∨ i = 4 ∨ i = 5 ∨ i = 6 ∨ i = 7 ∨ i = 8 ∨ i = 9 ∨ i = 10 ∨ i = 11 ∨ i = 12 ∨ i = 13 ∨ i = 14 ∨ i = 15) with rfl | rfl | rfl | rfl | rfl | rfl | rfl | rfl | rfl | rfl | rfl | rfl | rfl | rfl | rfl | rfl <;> simp [go_sem, ↓IntWalk.iteOmega, pcell, PS.new]
  · simp [show ¬ w1.heap.size < w.heap.size by omega, show ¬ w1.heap.size = mk by omega, show ¬ w1.heap.size = mm by omega]
end Go.Proofs.Qxb6500716a
