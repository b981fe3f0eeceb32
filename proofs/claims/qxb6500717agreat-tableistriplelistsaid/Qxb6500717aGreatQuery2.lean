/-
  FreeMove, FreeFrom, Removable: the walks.
-/
import Derived.Test.Qxb6500717aGreatQuery
namespace Go.Proofs.Qxb6500717aGreat
open Go.RowKit
set_option linter.unusedSimpArgs false
set_option linter.unusedVariables false

/-- What 'FreeFrom' answers. -/
def TabS.freeF (T : TabS) (r c t : Int) : Bool :=
  if (0 ≤ r ∧ r < T.nr) ∧ (0 ≤ c ∧ c < T.nc) ∧ ((T.base : Int) ≤ t ∧ t < 1099511627776) then T.free r.toNat c.toNat t.toNat else false
set_option maxHeartbeats 1000000 in
theorem freeF_any (M : TabM) (T : TabS) (lab : Nat → Nat) (r c t : Int) (w : World) (h : TAt w lab M T) :
    Calls Tryz.prog 38 #[.pointer (some ⟨M.t, 0, none⟩), .int .i64 (r), .int .i64 (c), .int .i64 (t)] w fun e w' => e = .returned (.bool (T.freeF r c t)) ∧ ∃ z, w' = w.ext z := by
  have VR := hid (validRobot_any M T lab r w h)
  have VC := hid (validCell_any M T lab c w h)
  have AK := hid (askable_any M T lab t w h)
  unfold TabS.freeF
  by_cases h1 : 0 ≤ r ∧ r < T.nr
  · have e1 : (decide (0 ≤ r) && decide (r < (T.nr : Int))) = true := by simp; omega
    rw [e1] at VR
    by_cases h3 : 0 ≤ c ∧ c < T.nc
    · have e3 : (decide (0 ≤ c) && decide (c < (T.nc : Int))) = true := by simp; omega
      rw [e3] at VC
      by_cases h2 : (T.base : Int) ≤ t ∧ t < 1099511627776
      · have e2 : (decide ((T.base : Int) ≤ t) && decide (t < 1099511627776)) = true := by simp; omega
        rw [e2] at AK
        rw [if_pos ⟨h1, h3, h2⟩]
        obtain ⟨rn, rfl⟩ : ∃ rn : Nat, r = rn := ⟨r.toNat, by omega⟩
        obtain ⟨cn, rfl⟩ : ∃ cn : Nat, c = cn := ⟨c.toNat, by omega⟩
        obtain ⟨tn, rfl⟩ : ∃ tn : Nat, t = tn := ⟨t.toNat, by omega⟩
        simp only [Int.toNat_natCast]
        have FF := hid (free_any M T lab rn cn tn w h (by omega) (by omega) (by omega))
        generalize T.free rn cn tn = x at *
        clear h h1 h2 h3 e1 e2 e3
        go_enter Tryz.func38, Tryz.ntmps38
        go_wp2_with (first | (go_at_call 75; refine VR.out.mono ?_; rintro e w ⟨rfl, rfl⟩) | (go_at_call 76; refine VC.out.mono ?_; rintro e w ⟨rfl, rfl⟩) | (go_at_call 77; refine AK.out.mono ?_; rintro e w ⟨rfl, rfl⟩) | (go_at_call 73; refine FF.out.mono ?_; rintro e w' ⟨rfl, z1, rfl⟩))
        go_ret
        exact ⟨rfl, ⟨_, rfl⟩⟩
      · have e2 : (decide ((T.base : Int) ≤ t) && decide (t < 1099511627776)) = false := by simp; omega
        rw [e2] at AK
        rw [if_neg (fun h => h2 h.2.2)]
        clear h h1 h2 h3 e1 e2 e3
        go_enter Tryz.func38, Tryz.ntmps38
        go_wp2_with (first | (go_at_call 75; refine VR.out.mono ?_; rintro e w ⟨rfl, rfl⟩) | (go_at_call 76; refine VC.out.mono ?_; rintro e w ⟨rfl, rfl⟩) | (go_at_call 77; refine AK.out.mono ?_; rintro e w ⟨rfl, rfl⟩))
        go_ret
        exact ⟨rfl, (Below.rf _).is_ext⟩
    · have e3 : (decide (0 ≤ c) && decide (c < (T.nc : Int))) = false := by simp; omega
      rw [e3] at VC
      rw [if_neg (fun h => h3 h.2.1)]
      clear h h1 h3 e1 e3
      go_enter Tryz.func38, Tryz.ntmps38
      go_wp2_with (first | (go_at_call 75; refine VR.out.mono ?_; rintro e w ⟨rfl, rfl⟩) | (go_at_call 76; refine VC.out.mono ?_; rintro e w ⟨rfl, rfl⟩) | (go_at_call 77; refine AK.out.mono ?_; rintro e w ⟨rfl, rfl⟩))
      go_ret
      exact ⟨rfl, (Below.rf _).is_ext⟩
  · have e1 : (decide (0 ≤ r) && decide (r < (T.nr : Int))) = false := by simp; omega
    rw [e1] at VR
    rw [if_neg (fun h => h1 h.1)]
    clear h h1 e1
    go_enter Tryz.func38, Tryz.ntmps38
    go_wp2_with (first | (go_at_call 75; refine VR.out.mono ?_; rintro e w ⟨rfl, rfl⟩) | (go_at_call 76; refine VC.out.mono ?_; rintro e w ⟨rfl, rfl⟩) | (go_at_call 77; refine AK.out.mono ?_; rintro e w ⟨rfl, rfl⟩))
    go_ret
    exact ⟨rfl, (Below.rf _).is_ext⟩

/-- What 'FreeMove' answers. -/
def TabS.freeM (T : TabS) (r a b t : Int) : Bool :=
  if (0 ≤ a ∧ a < T.nc) ∧ ((T.base : Int) ≤ t ∧ t < 1099511627776) ∧ T.freeC r b (t + 1) = true then !(T.swaps r a.toNat b.toNat t) else false
set_option maxHeartbeats 1000000 in
theorem freeM_any (M : TabM) (T : TabS) (lab : Nat → Nat) (r a b t : Int) (w : World) (h : TAt w lab M T) :
    Calls Tryz.prog 37 #[.pointer (some ⟨M.t, 0, none⟩), .int .i64 (r), .int .i64 (a), .int .i64 (b), .int .i64 (t)] w fun e w' => e = .returned (.bool (T.freeM r a b t)) ∧ ∃ z, w' = w.ext z := by
  have VC := hid (validCell_any M T lab a w h)
  have AK := hid (askable_any M T lab t w h)
  have FC := hid (freeC_any M T lab r b (t + 1) w h)
  unfold TabS.freeM
  by_cases h1 : 0 ≤ a ∧ a < T.nc
  · have e1 : (decide (0 ≤ a) && decide (a < (T.nc : Int))) = true := by simp; omega
    rw [e1] at VC
    by_cases h2 : (T.base : Int) ≤ t ∧ t < 1099511627776
    · have e2 : (decide ((T.base : Int) ≤ t) && decide (t < 1099511627776)) = true := by simp; omega
      rw [e2] at AK
      cases hf : T.freeC r b (t + 1) with
      | true =>
        rw [hf] at FC
        rw [if_pos ⟨h1, h2, rfl⟩]
        have hb : 0 ≤ b ∧ b < T.nc := by
          unfold TabS.freeC at hf
          split at hf
          · rename_i hh; exact hh.2.1
          · cases hf
        obtain ⟨an, rfl⟩ : ∃ an : Nat, a = an := ⟨a.toNat, by omega⟩
        obtain ⟨bn, rfl⟩ : ∃ bn : Nat, b = bn := ⟨b.toNat, by omega⟩
        simp only [Int.toNat_natCast]
        have SW := hid (fun z => swaps_any M T lab r an bn t (w.ext z) (h.ex z) (by omega) (by omega) (by omega))
        generalize T.swaps r an bn t = x at *
        clear h h1 e1 e2 hf hb
        go_enter Tryz.func37, Tryz.ntmps37
        go_wp2_with (first | (go_at_call 76; refine VC.out.mono ?_; rintro e w ⟨rfl, rfl⟩) | (go_at_call 77; refine AK.out.mono ?_; rintro e w ⟨rfl, rfl⟩) | (go_at_call 36; refine FC.out.mono ?_; rintro e w' ⟨rfl, z1, rfl⟩) | (go_at_call 74; refine (SW.out _).mono ?_; rintro e w' ⟨rfl, z2, rfl⟩))
        go_ret
        refine ⟨rfl, ?_⟩
        refine Below.is_ext ?_
        repeat (first | with_reducible exact Below.rf _ | with_reducible exact World.below_ext _ _ | with_reducible refine Below.ex ?_ _ | with_reducible refine Below.al ?_ _ | with_reducible refine Below.setCell ?_ (by simp) _ | with_reducible refine Below.drew ?_)
      | false =>
        rw [hf] at FC
        rw [if_neg (fun h => by simp at h)]
        clear h h1 e1 e2 hf
        go_enter Tryz.func37, Tryz.ntmps37
        go_wp2_with (first | (go_at_call 76; refine VC.out.mono ?_; rintro e w ⟨rfl, rfl⟩) | (go_at_call 77; refine AK.out.mono ?_; rintro e w ⟨rfl, rfl⟩) | (go_at_call 36; refine FC.out.mono ?_; rintro e w' ⟨rfl, z1, rfl⟩))
        go_ret
        exact ⟨rfl, ⟨_, rfl⟩⟩
    · have e2 : (decide ((T.base : Int) ≤ t) && decide (t < 1099511627776)) = false := by simp; omega
      rw [e2] at AK
      rw [if_neg (fun h => h2 h.2.1)]
      clear h h1 h2 e1 e2 FC
      go_enter Tryz.func37, Tryz.ntmps37
      go_wp2_with (first | (go_at_call 76; refine VC.out.mono ?_; rintro e w ⟨rfl, rfl⟩) | (go_at_call 77; refine AK.out.mono ?_; rintro e w ⟨rfl, rfl⟩))
      go_ret
      exact ⟨rfl, (Below.rf _).is_ext⟩
  · have e1 : (decide (0 ≤ a) && decide (a < (T.nc : Int))) = false := by simp; omega
    rw [e1] at VC
    rw [if_neg (fun h => h1 h.1)]
    clear h h1 e1 FC
    go_enter Tryz.func37, Tryz.ntmps37
    go_wp2_with (first | (go_at_call 76; refine VC.out.mono ?_; rintro e w ⟨rfl, rfl⟩))
    go_ret
    exact ⟨rfl, (Below.rf _).is_ext⟩
end Go.Proofs.Qxb6500717aGreat
