/-
  Release, At, Holder, FreeCell, FreeMove, FreeFrom: the walks.
-/
import Derived.Test.Qxb6500717aGreatTrunc
namespace Go.Proofs.Qxb6500717aGreat
open Go.RowKit
set_option linter.unusedSimpArgs false
set_option linter.unusedVariables false

theorem release_any (M : TabM) (T : TabS) (lab : Nat → Nat) (r : Nat) (w : World) (h : TAt w lab M T) (hc : Con T) (hr : r < T.nr) :
    Calls Tryz.prog 31 #[.pointer (some ⟨M.t, 0, none⟩), .int .i64 (r)] w (truncPost lab M (T.trunc r T.base) r w) := by
  have hb := h.bd.base
  have TR := hid (trunc_any M T lab r T.base T.base w h hc hr (by omega) (by omega))
  have c3 := h.c3
  obtain ⟨x, hx⟩ : ∃ x, T.trunc r T.base = x := ⟨_, rfl⟩
  rw [hx] at TR ⊢
  clear h hc hx
  go_enter Tryz.func31, Tryz.ntmps31
  go_wp2_with (go_at_call 32; refine hold ?_)
  unfold Hid
  refine TR.out.mono ?_
  rintro e w' ⟨M', rfl, h1, h2, h3, h4⟩
  go_wp2
  go_ret2
  exact ⟨M', rfl, h1, h2, h3, h4⟩
theorem release_no (M : TabM) (T : TabS) (lab : Nat → Nat) (r : Int) (w : World) (h : TAt w lab M T) (hr : ¬ (0 ≤ r ∧ r < T.nr)) :
    Calls Tryz.prog 31 #[.pointer (some ⟨M.t, 0, none⟩), .int .i64 (r)] w fun e w' => e = .returned (.tuple #[.int .i64 (0), .int .u8 2]) ∧ w' = w := by
  have TR := hid (trunc_no M T lab r T.base w h hr)
  have c3 := h.c3
  clear h hr
  go_enter Tryz.func31, Tryz.ntmps31
  go_wp2_with (go_at_call 32; refine TR.out.mono ?_; rintro e w' ⟨rfl, rfl⟩)
  go_ret2
  exact ⟨rfl, rfl⟩

/-- What 'At' answers. -/
def TabS.atQ (T : TabS) (r t : Int) : Int := if (0 ≤ r ∧ r < T.nr) ∧ ((T.base : Int) ≤ t ∧ t < 1099511627776) then T.at r.toNat t else -1
set_option maxHeartbeats 1000000 in
theorem atQ_any (M : TabM) (T : TabS) (lab : Nat → Nat) (r t : Int) (w : World) (h : TAt w lab M T) :
    Calls Tryz.prog 34 #[.pointer (some ⟨M.t, 0, none⟩), .int .i64 (r), .int .i64 (t)] w fun e w' => e = .returned (.int .i64 (T.atQ r t)) ∧ ∃ z, w' = w.ext z := by
  have VR := hid (validRobot_any M T lab r w h)
  have AK := hid (askable_any M T lab t w h)
  unfold TabS.atQ
  by_cases h1 : 0 ≤ r ∧ r < T.nr
  · have e1 : (decide (0 ≤ r) && decide (r < (T.nr : Int))) = true := by simp; omega
    rw [e1] at VR
    by_cases h2 : (T.base : Int) ≤ t ∧ t < 1099511627776
    · have e2 : (decide ((T.base : Int) ≤ t) && decide (t < 1099511627776)) = true := by simp; omega
      rw [e2] at AK
      rw [if_pos ⟨h1, h2⟩]
      obtain ⟨rn, rfl⟩ : ∃ rn : Nat, r = rn := ⟨r.toNat, by omega⟩
      rw [Int.toNat_natCast]
      have AT := hid (at_any M T lab rn t w h (by omega))
      generalize T.at rn t = x at *
      clear h h1 h2 e1 e2
      go_enter Tryz.func34, Tryz.ntmps34
      go_wp2_with (first | (go_at_call 75; refine VR.out.mono ?_; rintro e w ⟨rfl, rfl⟩) | (go_at_call 77; refine AK.out.mono ?_; rintro e w ⟨rfl, rfl⟩) | (go_at_call 69; refine AT.out.mono ?_; rintro e w' ⟨rfl, z1, rfl⟩))
      go_ret
      exact ⟨rfl, ⟨_, rfl⟩⟩
    · have e2 : (decide ((T.base : Int) ≤ t) && decide (t < 1099511627776)) = false := by simp; omega
      rw [e2] at AK
      rw [if_neg (fun h => h2 h.2)]
      clear h h1 h2 e1 e2
      go_enter Tryz.func34, Tryz.ntmps34
      go_wp2_with (first | (go_at_call 75; refine VR.out.mono ?_; rintro e w ⟨rfl, rfl⟩) | (go_at_call 77; refine AK.out.mono ?_; rintro e w ⟨rfl, rfl⟩))
      go_ret
      exact ⟨rfl, (Below.rf _).is_ext⟩
  · have e1 : (decide (0 ≤ r) && decide (r < (T.nr : Int))) = false := by simp; omega
    rw [e1] at VR
    rw [if_neg (fun h => h1 h.1)]
    clear h h1 e1
    go_enter Tryz.func34, Tryz.ntmps34
    go_wp2_with (go_at_call 75; refine VR.out.mono ?_; rintro e w ⟨rfl, rfl⟩)
    go_ret
    exact ⟨rfl, (Below.rf _).is_ext⟩

/-- What 'Holder' answers. -/
def TabS.holdQ (T : TabS) (c t : Int) : Int := if (0 ≤ c ∧ c < T.nc) ∧ ((T.base : Int) ≤ t ∧ t < 1099511627776) then T.hold c.toNat t else -1
set_option maxHeartbeats 1000000 in
theorem holdQ_any (M : TabM) (T : TabS) (lab : Nat → Nat) (c t : Int) (w : World) (h : TAt w lab M T) :
    Calls Tryz.prog 33 #[.pointer (some ⟨M.t, 0, none⟩), .int .i64 (c), .int .i64 (t)] w fun e w' => e = .returned (.int .i64 (T.holdQ c t)) ∧ ∃ z, w' = w.ext z := by
  have VR := hid (validCell_any M T lab c w h)
  have AK := hid (askable_any M T lab t w h)
  unfold TabS.holdQ
  by_cases h1 : 0 ≤ c ∧ c < T.nc
  · have e1 : (decide (0 ≤ c) && decide (c < (T.nc : Int))) = true := by simp; omega
    rw [e1] at VR
    by_cases h2 : (T.base : Int) ≤ t ∧ t < 1099511627776
    · have e2 : (decide ((T.base : Int) ≤ t) && decide (t < 1099511627776)) = true := by simp; omega
      rw [e2] at AK
      rw [if_pos ⟨h1, h2⟩]
      obtain ⟨cn, rfl⟩ : ∃ cn : Nat, c = cn := ⟨c.toNat, by omega⟩
      rw [Int.toNat_natCast]
      have AT := hid (hold_any M T lab cn t w h (by omega))
      generalize T.hold cn t = x at *
      clear h h1 h2 e1 e2
      go_enter Tryz.func33, Tryz.ntmps33
      go_wp2_with (first | (go_at_call 76; refine VR.out.mono ?_; rintro e w ⟨rfl, rfl⟩) | (go_at_call 77; refine AK.out.mono ?_; rintro e w ⟨rfl, rfl⟩) | (go_at_call 70; refine AT.out.mono ?_; rintro e w' ⟨rfl, z1, rfl⟩))
      go_ret
      exact ⟨rfl, ⟨_, rfl⟩⟩
    · have e2 : (decide ((T.base : Int) ≤ t) && decide (t < 1099511627776)) = false := by simp; omega
      rw [e2] at AK
      rw [if_neg (fun h => h2 h.2)]
      clear h h1 h2 e1 e2
      go_enter Tryz.func33, Tryz.ntmps33
      go_wp2_with (first | (go_at_call 76; refine VR.out.mono ?_; rintro e w ⟨rfl, rfl⟩) | (go_at_call 77; refine AK.out.mono ?_; rintro e w ⟨rfl, rfl⟩))
      go_ret
      exact ⟨rfl, (Below.rf _).is_ext⟩
  · have e1 : (decide (0 ≤ c) && decide (c < (T.nc : Int))) = false := by simp; omega
    rw [e1] at VR
    rw [if_neg (fun h => h1 h.1)]
    clear h h1 e1
    go_enter Tryz.func33, Tryz.ntmps33
    go_wp2_with (go_at_call 76; refine VR.out.mono ?_; rintro e w ⟨rfl, rfl⟩)
    go_ret
    exact ⟨rfl, (Below.rf _).is_ext⟩

/-- What 'FreeCell' answers. -/
def TabS.freeC (T : TabS) (r c t : Int) : Bool :=
  if (0 ≤ r ∧ r < T.nr) ∧ (0 ≤ c ∧ c < T.nc) ∧ ((T.base : Int) ≤ t ∧ t < 1099511627776) then decide (T.hold c.toNat t = -1 ∨ T.hold c.toNat t = r) else false
set_option maxHeartbeats 1000000 in
theorem freeC_any (M : TabM) (T : TabS) (lab : Nat → Nat) (r c t : Int) (w : World) (h : TAt w lab M T) :
    Calls Tryz.prog 36 #[.pointer (some ⟨M.t, 0, none⟩), .int .i64 (r), .int .i64 (c), .int .i64 (t)] w fun e w' => e = .returned (.bool (T.freeC r c t)) ∧ ∃ z, w' = w.ext z := by
  have VR := hid (validRobot_any M T lab r w h)
  have VC := hid (validCell_any M T lab c w h)
  have AK := hid (askable_any M T lab t w h)
  unfold TabS.freeC
  by_cases h1 : 0 ≤ r ∧ r < T.nr
  · have e1 : (decide (0 ≤ r) && decide (r < (T.nr : Int))) = true := by simp; omega
    rw [e1] at VR
    by_cases h3 : 0 ≤ c ∧ c < T.nc
    · have e3 : (decide (0 ≤ c) && decide (c < (T.nc : Int))) = true := by simp; omega
      rw [e3] at VC
      by_cases h2 : (T.base : Int) ≤ t ∧ t < 1099511627776
      · have e2 : (decide ((T.base : Int) ≤ t) && decide (t < 1099511627776)) = true := by simp; omega
        rw [e2] at AK
        rw [if_pos ⟨h1, h3, h2⟩]
        obtain ⟨cn, rfl⟩ : ∃ cn : Nat, c = cn := ⟨c.toNat, by omega⟩
        rw [Int.toNat_natCast]
        have AT := hid (hold_any M T lab cn t w h (by omega))
        generalize T.hold cn t = x at *
        clear h h1 h2 h3 e1 e2 e3
        by_cases hx : x = -1
        · subst hx
          rw [decide_eq_true (Or.inl rfl)]
          go_enter Tryz.func36, Tryz.ntmps36
          go_wp2_with (first | (go_at_call 75; refine VR.out.mono ?_; rintro e w ⟨rfl, rfl⟩) | (go_at_call 76; refine VC.out.mono ?_; rintro e w ⟨rfl, rfl⟩) | (go_at_call 77; refine AK.out.mono ?_; rintro e w ⟨rfl, rfl⟩) | (go_at_call 70; refine AT.out.mono ?_; rintro e w' ⟨rfl, z1, rfl⟩))
          go_ret
          exact ⟨rfl, ⟨_, rfl⟩⟩
        · have b1 : (x == -1) = false := by simpa using hx
          have e4 : decide (x = -1 ∨ x = r) = (x == r) := by rw [Bool.eq_iff_iff]; simp [hx]
          rw [e4]
          clear hx e4
          go_enter Tryz.func36, Tryz.ntmps36
          go_wp2_with (first | (go_at_call 75; refine VR.out.mono ?_; rintro e w ⟨rfl, rfl⟩) | (go_at_call 76; refine VC.out.mono ?_; rintro e w ⟨rfl, rfl⟩) | (go_at_call 77; refine AK.out.mono ?_; rintro e w ⟨rfl, rfl⟩) | (go_at_call 70; refine AT.out.mono ?_; rintro e w' ⟨rfl, z1, rfl⟩))
          go_ret
          exact ⟨rfl, ⟨_, rfl⟩⟩
      · have e2 : (decide ((T.base : Int) ≤ t) && decide (t < 1099511627776)) = false := by simp; omega
        rw [e2] at AK
        rw [if_neg (fun h => h2 h.2.2)]
        clear h h1 h2 h3 e1 e2 e3
        go_enter Tryz.func36, Tryz.ntmps36
        go_wp2_with (first | (go_at_call 75; refine VR.out.mono ?_; rintro e w ⟨rfl, rfl⟩) | (go_at_call 76; refine VC.out.mono ?_; rintro e w ⟨rfl, rfl⟩) | (go_at_call 77; refine AK.out.mono ?_; rintro e w ⟨rfl, rfl⟩))
        go_ret
        exact ⟨rfl, (Below.rf _).is_ext⟩
    · have e3 : (decide (0 ≤ c) && decide (c < (T.nc : Int))) = false := by simp; omega
      rw [e3] at VC
      rw [if_neg (fun h => h3 h.2.1)]
      clear h h1 h3 e1 e3
      go_enter Tryz.func36, Tryz.ntmps36
      go_wp2_with (first | (go_at_call 75; refine VR.out.mono ?_; rintro e w ⟨rfl, rfl⟩) | (go_at_call 76; refine VC.out.mono ?_; rintro e w ⟨rfl, rfl⟩) | (go_at_call 77; refine AK.out.mono ?_; rintro e w ⟨rfl, rfl⟩))
      go_ret
      exact ⟨rfl, (Below.rf _).is_ext⟩
  · have e1 : (decide (0 ≤ r) && decide (r < (T.nr : Int))) = false := by simp; omega
    rw [e1] at VR
    rw [if_neg (fun h => h1 h.1)]
    clear h h1 e1
    go_enter Tryz.func36, Tryz.ntmps36
    go_wp2_with (first | (go_at_call 75; refine VR.out.mono ?_; rintro e w ⟨rfl, rfl⟩) | (go_at_call 76; refine VC.out.mono ?_; rintro e w ⟨rfl, rfl⟩) | (go_at_call 77; refine AK.out.mono ?_; rintro e w ⟨rfl, rfl⟩))
    go_ret
    exact ⟨rfl, (Below.rf _).is_ext⟩
end Go.Proofs.Qxb6500717aGreat
