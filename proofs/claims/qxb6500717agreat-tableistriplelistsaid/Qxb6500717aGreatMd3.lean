/-
  The model: small questions.
-/
import Derived.Test.Qxb6500717aGreatMd2
import Derived.Test.Qxb6500717aGreatAsk
namespace Go.Proofs.Qxb6500717aGreat
open Go.RowKit
set_option linter.unusedSimpArgs false
set_option linter.unusedVariables false
set_option maxRecDepth 20000
set_option maxHeartbeats 4000000

theorem mrobot_any (m : Nat) (S : MdS) (r : Int) (w : World) (h : MdR w m S) : Calls Tryz.prog 49 #[.pointer (some ⟨m, 0, none⟩), .int .i64 (r)] w fun e w' => e = .returned (.bool (decide (0 ≤ r) && decide (r < (S.nr : Int)))) ∧ w' = w := by
  have c2 := h.c2
  have lt := h.lt
  clear h
  by_cases h0 : 0 ≤ r
  · have b0 : decide (0 ≤ r) = true := decide_eq_true h0
    go_enter Tryz.func49, Tryz.ntmps49
    go_wp2
    go_ret
    exact ⟨by simp [h0], rfl⟩
  · have b0 : decide (0 ≤ r) = false := decide_eq_false h0
    go_enter Tryz.func49, Tryz.ntmps49
    go_wp2
    go_ret
    exact ⟨by simp [h0], rfl⟩
theorem mcell_any (m : Nat) (S : MdS) (r : Int) (w : World) (h : MdR w m S) : Calls Tryz.prog 51 #[.pointer (some ⟨m, 0, none⟩), .int .i64 (r)] w fun e w' => e = .returned (.bool (decide (0 ≤ r) && decide (r < (S.nc : Int)))) ∧ w' = w := by
  have c1 := h.c1
  have lt := h.lt
  clear h
  by_cases h0 : 0 ≤ r
  · have b0 : decide (0 ≤ r) = true := decide_eq_true h0
    go_enter Tryz.func51, Tryz.ntmps51
    go_wp2
    go_ret
    exact ⟨by simp [h0], rfl⟩
  · have b0 : decide (0 ≤ r) = false := decide_eq_false h0
    go_enter Tryz.func51, Tryz.ntmps51
    go_wp2
    go_ret
    exact ⟨by simp [h0], rfl⟩
theorem mask_any (m : Nat) (S : MdS) (t : Int) (w : World) (h : MdR w m S) : Calls Tryz.prog 52 #[.pointer (some ⟨m, 0, none⟩), .int .i64 (t)] w fun e w' => e = .returned (.bool (decide ((S.base : Int) ≤ t) && decide (t < 1099511627776))) ∧ w' = w := by
  have c4 := h.c4
  have lt := h.lt
  clear h
  by_cases h0 : (S.base : Int) ≤ t
  · have b0 : decide ((S.base : Int) ≤ t) = true := decide_eq_true h0
    go_enter Tryz.func52, Tryz.ntmps52
    go_wp2
    go_ret
    exact ⟨by simp [h0], rfl⟩
  · have b0 : decide ((S.base : Int) ≤ t) = false := decide_eq_false h0
    go_enter Tryz.func52, Tryz.ntmps52
    go_wp2
    go_ret
    exact ⟨by simp [h0], rfl⟩
theorem mheld_any (m : Nat) (S : MdS) (w : World) (h : MdR w m S) : Calls Tryz.prog 58 #[.pointer (some ⟨m, 0, none⟩)] w fun e w' => e = .returned (.int .i64 ((S.tr.length : Int) + S.sp.length)) ∧ ∃ z, w' = w.ext z := by
  obtain ⟨v5, a5, b5⟩ := h.l5
  obtain ⟨v6, a6, b6⟩ := h.l6
  have lt := h.lt
  have h1 := h.bt.1
  have h2 := h.bs.1
  obtain ⟨ao1, cap1, rfl, lc1, -⟩ := b5
  obtain ⟨ao2, cap2, rfl, lc2, -⟩ := b6
  clear h
  go_enter Tryz.func58, Tryz.ntmps58
  go_wp2
  first | with_reducible refine wp_region_ext2 (by kernel_rfl) (by kernel_rfl) ?_ | refine wp_region_ext (by kernel_rfl) (by kernel_rfl) ?_
  repeat (go_big_quiet_step (fail))
  refine wpQuiet_nil ?_
  rintro _ ⟨z, rfl⟩
  go_wp2
  go_ret
  refine ⟨rfl, Below.is_ext ?_⟩
  (repeat (first | with_reducible exact Below.rf _ | with_reducible exact World.below_ext _ _ | with_reducible refine Below.ex ?_ _ | with_reducible refine Below.al ?_ _ | with_reducible refine Below.setCell ?_ (by simp) _ | with_reducible refine Below.drew ?_))
def MdS.place (S : MdS) (r c t : Int) : Int :=
  if (decide (0 ≤ r) && decide (r < (S.nr : Int))) = false ∨ (decide (0 ≤ c) && decide (c < (S.nc : Int))) = false then 2 else if t < S.base then 3 else if (S.base : Int) + 256 ≤ t then 4 else 0
theorem mplace_any (m : Nat) (S : MdS) (r c t : Int) (w : World) (h : MdR w m S) : Calls Tryz.prog 78 #[.pointer (some ⟨m, 0, none⟩), .int .i64 (r), .int .i64 (c), .int .i64 (t)] w fun e w' => e = .returned (.int .u8 (S.place r c t)) ∧ w' = w := by
  have VR := hid (mrobot_any m S r w h)
  have VC := hid (mcell_any m S c w h)
  have c4 := h.c4
  have lt := h.lt
  have hb := h.bn.2.2.2
  unfold MdS.place
  generalize (decide (0 ≤ r) && decide (r < (S.nr : Int))) = x at *
  generalize (decide (0 ≤ c) && decide (c < (S.nc : Int))) = y at *
  clear h
  cases x with
  | false =>
    rw [if_pos (Or.inl rfl)]
    go_enter Tryz.func78, Tryz.ntmps78
    go_wp2_with (first | (go_at_call 49; refine VR.out.mono ?_; rintro e w' ⟨rfl, rfl⟩) | (go_at_call 51; refine VC.out.mono ?_; rintro e w' ⟨rfl, rfl⟩))
    go_ret
    exact ⟨rfl, rfl⟩
  | true =>
    cases y with
    | false =>
      rw [if_pos (Or.inr rfl)]
      go_enter Tryz.func78, Tryz.ntmps78
      go_wp2_with (first | (go_at_call 49; refine VR.out.mono ?_; rintro e w' ⟨rfl, rfl⟩) | (go_at_call 51; refine VC.out.mono ?_; rintro e w' ⟨rfl, rfl⟩))
      go_ret
      exact ⟨rfl, rfl⟩
    | true =>
      rw [if_neg (by simp)]
      by_cases h1 : t < (S.base : Int)
      · rw [if_pos h1]
        go_enter Tryz.func78, Tryz.ntmps78
        go_wp2_with (first | (go_at_call 49; refine VR.out.mono ?_; rintro e w' ⟨rfl, rfl⟩) | (go_at_call 51; refine VC.out.mono ?_; rintro e w' ⟨rfl, rfl⟩))
        go_ret
        exact ⟨rfl, rfl⟩
      · rw [if_neg h1]
        by_cases h2 : (S.base : Int) + 256 ≤ t
        · rw [if_pos h2]
          go_enter Tryz.func78, Tryz.ntmps78
          go_wp2_with (first | (go_at_call 49; refine VR.out.mono ?_; rintro e w' ⟨rfl, rfl⟩) | (go_at_call 51; refine VC.out.mono ?_; rintro e w' ⟨rfl, rfl⟩))
          go_ret
          exact ⟨rfl, rfl⟩
        · rw [if_neg h2]
          go_enter Tryz.func78, Tryz.ntmps78
          go_wp2_with (first | (go_at_call 49; refine VR.out.mono ?_; rintro e w' ⟨rfl, rfl⟩) | (go_at_call 51; refine VC.out.mono ?_; rintro e w' ⟨rfl, rfl⟩))
          go_ret
          exact ⟨rfl, rfl⟩
end Go.Proofs.Qxb6500717aGreat
