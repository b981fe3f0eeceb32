/-
  RoutesAreShortestWalks: the walk.
-/
import Derived.Test.Qxb6500715aDoorDrive
import Derived.Test.Qxb6500715aDoorLaw4
namespace Go.Proofs.Qxb6500715aDoor
open Go.RowKit Go.Maps
set_option linter.unusedSimpArgs false
set_option linter.unusedVariables false

set_option maxRecDepth 20000 in
set_option maxHeartbeats 4000000 in
theorem law5 (sb so n cap : Nat) (K A B : Nat → Int) (dao : Nat → Option Addr) (dlen dcap : Nat → Nat) (f : Nat → Nat → Int) (w : World) (hG : Globs w) (hDr : Dirs w) (hS : Script w sb so n K A B dao dlen dcap f) (hn : n ≤ 9223372036854775807) :
    Calls Tryd.prog 5 #[.slice (some ⟨sb, so, none⟩) n cap] w fun e w' => e = .returned (.bool true) ∧ ∃ z, w' = w.ext z := by
  have HS := hid hS
  have HG := hid hG
  have HDR := hid hDr
  clear hS hG hDr
  go_enter Tryd.func5, Tryd.ntmps5
  go_wp2_with fail
  refine (small_any sb so n cap dao dlen dcap w hn HS.out.hD (fun i hi => (HS.out.hlen i hi).2)).mono ?_
  rintro e w1 ⟨b, rfl, hb, hw1⟩
  obtain rfl : w = w1 := hw1.symm
  clear hw1
  cases b with
  | false =>
    go_wp2
    go_ret
    exact ⟨rfl, (Below.rf _).is_ext⟩
  | true =>
    obtain ⟨hn1, hdl⟩ := hb rfl
    have HDL := hid hdl
    clear hb hdl
    go_wp2_with fail
    refine (floors_any sb so n cap K A B dao dlen dcap f w HS.out HG.out HDR.out hn1 HDL.out).mono ?_
    rintro e w1 ⟨v, fbs, rfl, hfl, hF⟩
    obtain ⟨ao, cp, rfl⟩ : ∃ ao cp, v = .slice ao fbs.length cp := by
      rcases hF.own.2 with ⟨h1, h2⟩ | ⟨g, cap, cur, h1, _⟩
      · exact ⟨none, 0, by rw [h2]; exact h1⟩
      · exact ⟨some ⟨g, 0, none⟩, cap, h1⟩
    have HF := hid hF
    obtain ⟨m, hm⟩ : ∃ m, fbs.length = m := ⟨_, rfl⟩
    have HM := hid hm
    rw [hm] at hfl ⊢
    clear hF hm
    go_wp2_with fail
    go_loopw [19] (fun x wr => ∃ i : Nat, i ≤ m ∧ x = .int .i64 (i) ∧ Below w1.heap.size w1 wr) (fun x _ => m - (intOf x).toNat)
    case atStart => exact ⟨0, Nat.zero_le _, rfl, Below.rf _⟩
    case round =>
      obtain ⟨i, hi, rfl, hB⟩ := hrel
      have HB := hid hB
      have hsz := hB.size
      by_cases hlt : i < m
      · obtain ⟨g, cap', fb, hv, hcap, hg, hmem, hcell⟩ := ptr_at (HF.out.ext hB) (i := i) (by rw [HM.out]; exact hlt)
        simp only [Value.slice.injEq] at hv
        obtain ⟨rfl, -, rfl⟩ := hv
        obtain ⟨F, sb2, cb2, tb, db, NN, dist, dia, D, rfl, hFlo, -⟩ := (HF.out.ext hB).has fb hmem
        rw [HM.out] at hcap
        have hN := hFlo.hN
        have hp := hFlo.fl.pln
        have HFL := hid hFlo
        have bi : decide ((i : Int) < m) = true := by simp; omega
        clear hmem hB hFlo
        go_wp2_with (go_at_call 13; refine (cells_any F _ HFL.out.fl).mono ?_; rintro e w3 ⟨rfl, rfl⟩)
        go_loopw [6] (fun x wr => ∃ a : Nat, a ≤ F.N ∧ x = .int .i64 (a) ∧ Below w3.heap.size w3 wr) (fun x _ => F.N - (intOf x).toNat)
        case atStart => exact ⟨0, Nat.zero_le _, rfl, Below.rf _⟩
        case round =>
          obtain ⟨a, ha, rfl, hB2⟩ := hrel
          have HB2 := hid hB2
          have hs2 := hB2.size
          by_cases hla : a < F.N
          · have hFl2 := HFL.out.below hB2
            have ba : decide ((a : Int) < F.N) = true := by simp; omega
            clear hB2
            go_wp2
            go_loopw [7] (fun x w2 => ∃ b : Nat, b ≤ F.N ∧ x = .int .i64 (b) ∧ Below wr.heap.size wr w2) (fun x _ => F.N - (intOf x).toNat)
            case atStart => exact ⟨0, Nat.zero_le _, rfl, Below.rf _⟩
            case round =>
              clear hcell
              obtain ⟨b, hbN, rfl, hB6⟩ := hrel
              have HB6 := hid hB6
              have hs6 := hB6.size
              have hFl6 := hFl2.below hB6
              by_cases hlb : b < F.N
              · have bb : decide ((b : Int) < F.N) = true := by simp; omega
                have hRT := rte_spec hp hla hlb
                have hd4 := (hFl6.dst hla hlb).2.2
                have HRO := hid (route_any F a b _ hFl6.fl hla hlb hd4)
                clear hB6
                go_wp2_with (go_at_call 25; refine hold ?_)
                unfold Hid
                refine HRO.out.mono ?_
                rintro e w7 ⟨g7, rfl, hg7, hrow7, hz7⟩
                obtain ⟨dd, hdd⟩ : ∃ dd, F.dst a b = dd := ⟨_, rfl⟩
                obtain ⟨X, hX⟩ : ∃ X, F.rte a b = X := ⟨_, rfl⟩
                have HDD := hid hdd
                rw [hX] at hrow7 hRT
                rw [hdd] at hRT hd4 ⊢
                obtain ⟨hT, hTl⟩ := hRT
                have hB7 := ext_below' hz7
                have hFl7 := hFl6.below hB7
                have hs7 := hB7.size
                have k0 := hrow7 0 a hT.hd
                have k1 := hrow7 dd b (by have := hT.tl; rw [hTl] at this; exact this)
                have HW := hid (isWalk_ok F sb2 cb2 g7 (dd + 1) (dd + 1) X w7 hFl7.fl hFl7.lk hN.2 hg7 hT.toWlk hTl (by omega) (by omega) hrow7)
                have HB7 := hid hB7
                have HROW := hid hrow7
                have HT := hid hT
                have HTL := hid hTl
                clear hTl hT hrow7 hz7 hB7 hdd hX HRO
                go_wp2_with (first | (go_at_call 24; refine HW.out.mono ?_; rintro e w7 ⟨rfl, rfl⟩) | (go_at_call 20; refine (dist_is F a b dd _ hFl7.fl hla hlb HDD.out).mono ?_; rintro e w' ⟨rfl, z8, rfl⟩) | (go_at_call 26; refine hold ?_))
                unfold Hid
                refine (dirs_any F sb2 cb2 g7 (dd + 1) dd (dd + 1) X _ (hFl7.ex _).fl (hFl7.ex _).lk hN.2 (by simp only [World.size_ext]; omega) HT.out.toWlk HTL.out rfl (by omega) (HROW.out.below hg7 (World.below_ext _ _))).mono ?_
                rintro e w8 ⟨g8, rfl, hp8, hz8⟩
                have hB8 : Below w7.heap.size w7 w8 := (World.below_ext w7 z8).trans ((ext_below' hz8).mono (by simp only [World.size_ext]; omega))
                have hs8 := hB8.size
                have hFl8 := hFl7.below hB8
                have HROW8 := hid (HROW.out.below hg7 hB8)
                have HB8 := hid hB8
                have HDV := hid (drive_any F a g8 (dd + 1) dd dd X w8 hFl8.fl hN.2 HT.out.toWlk HT.out.hd HTL.out (by omega) (by omega) hp8)
                clear hp8 hz8 hB8 k0 k1
                go_wp2_with (go_at_call 27; refine hold ?_)
                unfold Hid
                refine HDV.out.mono ?_
                rintro e w9 ⟨g9, rfl, hg9, hrow9, hz9⟩
                have hB9 := ext_below' hz9
                have hs9 := hB9.size
                have HSM := hid (sameCells_ok g7 g9 (dd + 1) (dd + 1) (dd + 1) X w9 (by omega) hg9 HTL.out (by omega) (HROW8.out.below (by omega) hB9) hrow9)
                have HB9 := hid hB9
                clear hrow9 hz9 hB9 HDV
                go_wp2_with (go_at_call 28; refine HSM.out.mono ?_; rintro e w' ⟨rfl, z9, rfl⟩)
                go_roundw
                case rel =>
                  refine ⟨b + 1, by omega, by go_num, ?_⟩
                  exact HB6.out.trans (((HB7.out.trans ((HB8.out.trans ((HB9.out.ex _).mono hs8)).mono hs7))).mono hs6)
                case measure => simp [intOf]; omega
              · clear hB6
                go_wp2
                go_roundw
                case rel => exact ⟨a + 1, by omega, by go_num, HB2.out.trans (HB6.out.mono hs2)⟩
                case measure => simp [intOf]; omega
          · go_wp2
            go_roundw
            case rel => exact ⟨i + 1, by omega, by go_num, HB.out.trans (HB2.out.mono hsz)⟩
            case measure => simp [intOf]; omega
      · go_wp2
        go_ret
        exact ⟨rfl, (HF.out.below.trans (HB.out.mono HF.out.below.size)).is_ext⟩
end Go.Proofs.Qxb6500715aDoor
