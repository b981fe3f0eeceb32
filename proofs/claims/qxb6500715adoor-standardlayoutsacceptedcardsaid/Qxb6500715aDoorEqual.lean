/-
  Equal of two layouts that hold the same.
-/
import Derived.Test.Qxb6500715aDoorLaw8b
namespace Go.Proofs.Qxb6500715aDoor
open Go.RowKit
set_option linter.unusedSimpArgs false
set_option linter.unusedVariables false

set_option maxRecDepth 20000 in
set_option maxHeartbeats 2000000 in
theorem equalLay_same (A S P D r c : Int) (pb po n cap qb qo cap2 : Nat) (px py : Nat → Int) (w : World) (hn : n ≤ 1000) (hnc : n ≤ cap) (hnc2 : n ≤ cap2) (hpb : pb < w.heap.size) (hqb : qb < w.heap.size)
    (hc0 : ∀ i, i < n → w.cell? ⟨pb, po + i * 2, none⟩ = some (.int .i64 (px i))) (hc1 : ∀ i, i < n → w.cell? ⟨pb, po + i * 2 + 1, none⟩ = some (.int .i64 (py i)))
    (hd0 : ∀ i, i < n → w.cell? ⟨qb, qo + i * 2, none⟩ = some (.int .i64 (px i))) (hd1 : ∀ i, i < n → w.cell? ⟨qb, qo + i * 2 + 1, none⟩ = some (.int .i64 (py i))) :
    Calls Tryd.prog 48 #[.agg #[.int .i64 A, .int .i64 S, .int .i64 P, .int .i64 D, .int .i64 r, .int .i64 c, .slice (some ⟨pb, po, none⟩) n cap], .agg #[.int .i64 A, .int .i64 S, .int .i64 P, .int .i64 D, .int .i64 r, .int .i64 c, .slice (some ⟨qb, qo, none⟩) n cap2]] w fun e w' => e = .returned (.bool true) ∧ ∃ z, w' = w.ext z := by
  have H0 := hid hc0
  have H1 := hid hc1
  have H2 := hid hd0
  have H3 := hid hd1
  clear hc0 hc1 hd0 hd1
  go_enter Tryd.func48, Tryd.ntmps48
  go_wp2
  go_loopw [52] (fun i w' => ∃ (k : Nat), k ≤ n ∧ i = .int .i64 (k) ∧ ∃ z, w' = ((w.alloc (.cells #[.int .i64 (A), .int .i64 (S), .int .i64 (P), .int .i64 (D), .int .i64 (r), .int .i64 (c), .slice (some ⟨pb, po, none⟩) n cap] 66)).alloc (.cells #[.int .i64 (A), .int .i64 (S), .int .i64 (P), .int .i64 (D), .int .i64 (r), .int .i64 (c), .slice (some ⟨qb, qo, none⟩) n cap2] 66)).ext z) (fun i _ => n - (intOf i).toNat)
  case atStart => exact ⟨0, Nat.zero_le _, rfl, (Below.rf _).is_ext⟩
  case round =>
    obtain ⟨k, hk, rfl, z, rfl⟩ := hrel
    by_cases hlt : k < n
    · have g0 := H0.out k hlt
      have g1 := H1.out k hlt
      have g2 := H2.out k hlt
      have g3 := H3.out k hlt
      go_wp2
      first | with_reducible refine wp_region_ext2 (by kernel_rfl) (by kernel_rfl) ?_ | refine wp_region_ext (by kernel_rfl) (by kernel_rfl) ?_
      repeat (go_big_quiet_step (fail))
      refine wpQuiet_nil ?_
      rintro _ ⟨z, rfl⟩
      go_wp2
      go_roundw
      case rel => exact ⟨k + 1, by omega, by go_num, (((World.below_ext _ _).al _).ex _).is_ext⟩
      case measure => simp [intOf]; omega
    · go_wp2
      go_ret
      exact ⟨rfl, ((((Below.rf w).al _).al _).ex _).is_ext⟩
end Go.Proofs.Qxb6500715aDoor
