/-
  RoutesPreferFrontAndLeft: the walk.
-/
import Derived.Test.Qxb6500715aDoorPre2
import Derived.Test.Qxb6500715aDoorLaw4
namespace Go.Proofs.Qxb6500715aDoor
open Go.RowKit Go.Maps
set_option linter.unusedSimpArgs false
set_option linter.unusedVariables false

set_option maxRecDepth 20000 in
set_option maxHeartbeats 4000000 in
theorem law6 (sb so n cap : Nat) (K A B : Nat → Int) (dao : Nat → Option Addr) (dlen dcap : Nat → Nat) (f : Nat → Nat → Int) (w : World) (hG : Globs w) (hDr : Dirs w) (hS : Script w sb so n K A B dao dlen dcap f) (hn : n ≤ 9223372036854775807) :
    Calls Tryd.prog 6 #[.slice (some ⟨sb, so, none⟩) n cap] w fun e w' => e = .returned (.bool true) ∧ ∃ z, w' = w.ext z := by
  have HS := hid hS
  have HG := hid hG
  have HDR := hid hDr
  clear hS hG hDr
  go_enter Tryd.func6, Tryd.ntmps6
  go_wp2_with fail
  refine (small_any sb so n cap dao dlen dcap w hn HS.out.hD (fun i hi => (HS.out.hlen i hi).2)).mono ?_
  rintro e w1 ⟨b, rfl, hb, hw1⟩
  obtain rfl : w = w1 := hw1.symm
  clear hw1
  cases b with
  | false =>
    go_wp2
    go_ret
    exact ⟨rfl, (Below.rf _).is_ext⟩
  | true =>
    obtain ⟨hn1, hdl⟩ := hb rfl
    have HDL := hid hdl
    clear hb hdl
    go_wp2_with fail
    refine (floors_any sb so n cap K A B dao dlen dcap f w HS.out HG.out HDR.out hn1 HDL.out).mono ?_
    rintro e w1 ⟨v, fbs, rfl, hfl, hF⟩
    obtain ⟨ao, cp, rfl⟩ : ∃ ao cp, v = .slice ao fbs.length cp := by
      rcases hF.own.2 with ⟨h1, h2⟩ | ⟨g, cap, cur, h1, _⟩
      · exact ⟨none, 0, by rw [h2]; exact h1⟩
      · exact ⟨some ⟨g, 0, none⟩, cap, h1⟩
    have HF := hid hF
    obtain ⟨m, hm⟩ : ∃ m, fbs.length = m := ⟨_, rfl⟩
    have HM := hid hm
    rw [hm] at hfl ⊢
    clear hF hm
    go_wp2_with fail
    go_loopw [14] (fun x wr => ∃ i : Nat, i ≤ m ∧ x = .int .i64 (i) ∧ Below w1.heap.size w1 wr) (fun x _ => m - (intOf x).toNat)
    case atStart => exact ⟨0, Nat.zero_le _, rfl, Below.rf _⟩
    case round =>
      obtain ⟨i, hi, rfl, hB⟩ := hrel
      have HB := hid hB
      have hsz := hB.size
      by_cases hlt : i < m
      · obtain ⟨g, cap', fb, hv, hcap, hg, hmem, hcell⟩ := ptr_at (HF.out.ext hB) (i := i) (by rw [HM.out]; exact hlt)
        simp only [Value.slice.injEq] at hv
        obtain ⟨rfl, -, rfl⟩ := hv
        obtain ⟨F, sb2, cb2, tb, db, NN, dist, dia, D, rfl, hFlo, -⟩ := (HF.out.ext hB).has fb hmem
        rw [HM.out] at hcap
        have hN := hFlo.hN
        have hp := hFlo.fl.pln
        have HFL := hid hFlo
        have bi : decide ((i : Int) < m) = true := by simp; omega
        clear hmem hB hFlo
        go_wp2_with (go_at_call 13; refine (cells_any F _ HFL.out.fl).mono ?_; rintro e w3 ⟨rfl, rfl⟩)
        go_loopw [6] (fun x wr => ∃ a : Nat, a ≤ F.N ∧ x = .int .i64 (a) ∧ Below w3.heap.size w3 wr) (fun x _ => F.N - (intOf x).toNat)
        case atStart => exact ⟨0, Nat.zero_le _, rfl, Below.rf _⟩
        case round =>
          obtain ⟨a, ha, rfl, hB2⟩ := hrel
          have HB2 := hid hB2
          have hs2 := hB2.size
          by_cases hla : a < F.N
          · have hFl2 := HFL.out.below hB2
            have ba : decide ((a : Int) < F.N) = true := by simp; omega
            clear hB2
            go_wp2
            go_loopw [7] (fun x w2 => ∃ b : Nat, b ≤ F.N ∧ x = .int .i64 (b) ∧ Below wr.heap.size wr w2) (fun x _ => F.N - (intOf x).toNat)
            case atStart => exact ⟨0, Nat.zero_le _, rfl, Below.rf _⟩
            case round =>
              clear hcell
              obtain ⟨b, hbN, rfl, hB6⟩ := hrel
              have HB6 := hid hB6
              have hs6 := hB6.size
              have hFl6 := hFl2.below hB6
              by_cases hlb : b < F.N
              · have bb : decide ((b : Int) < F.N) = true := by simp; omega
                have FF := hid (frontFirst_any F sb2 cb2 tb db NN dist dia D a b _ hFl6 hla hlb)
                have LF := hid (fun z => leftFirst_any F sb2 cb2 tb db NN dist dia D a b _ (hFl6.ex z) hla hlb)
                clear hB6
                go_wp2_with (first | (go_at_call 29; refine FF.out.mono ?_; rintro e w' ⟨rfl, z1, rfl⟩) | (go_at_call 30; refine (LF.out _).mono ?_; rintro e w' ⟨rfl, z2, rfl⟩))
                go_roundw
                case rel => exact ⟨b + 1, by omega, by go_num, HB6.out.ex _⟩
                case measure => simp [intOf]; omega
              · clear hB6
                go_wp2
                go_roundw
                case rel => exact ⟨a + 1, by omega, by go_num, HB2.out.trans (HB6.out.mono hs2)⟩
                case measure => simp [intOf]; omega
          · go_wp2
            go_roundw
            case rel => exact ⟨i + 1, by omega, by go_num, HB.out.trans (HB2.out.mono hsz)⟩
            case measure => simp [intOf]; omega
      · go_wp2
        go_ret
        exact ⟨rfl, (HF.out.below.trans (HB.out.mono HF.out.below.size)).is_ext⟩
end Go.Proofs.Qxb6500715aDoor
