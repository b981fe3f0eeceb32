/-
  TablesAgree: the walk.
-/
import Derived.Test.Qxb6500715aDoorPath
import Derived.Test.Qxb6500715aDoorLaw3
namespace Go.Proofs.Qxb6500715aDoor
open Go.RowKit Go.Maps
set_option linter.unusedSimpArgs false
set_option linter.unusedVariables false

theorem dist_is (F : FP) (a b dd : Nat) (w : World) (h : FlN w F) (ha : a < F.N) (hb : b < F.N) (hd : F.dst a b = dd) :
    Calls Tryd.prog 20 #[.pointer (some ⟨F.fb, 0, none⟩), .int .i64 (a), .int .i64 (b)] w fun e w' => e = .returned (.int .i64 (dd)) ∧ ∃ z, w' = w.ext z := hd ▸ dist_any F a b w h ha hb

theorem ext_below' {w w' : World} (h : ∃ z, w' = w.ext z) : Below w.heap.size w w' := by
  obtain ⟨z, rfl⟩ := h
  exact World.below_ext _ _

set_option maxRecDepth 20000 in
set_option maxHeartbeats 4000000 in
theorem law4 (sb so n cap : Nat) (K A B : Nat → Int) (dao : Nat → Option Addr) (dlen dcap : Nat → Nat) (f : Nat → Nat → Int) (w : World) (hG : Globs w) (hDr : Dirs w) (hS : Script w sb so n K A B dao dlen dcap f) (hn : n ≤ 9223372036854775807) :
    Calls Tryd.prog 4 #[.slice (some ⟨sb, so, none⟩) n cap] w fun e w' => e = .returned (.bool true) ∧ ∃ z, w' = w.ext z := by
  have HS := hid hS
  have HG := hid hG
  have HDR := hid hDr
  clear hS hG hDr
  go_enter Tryd.func4, Tryd.ntmps4
  go_wp2_with fail
  refine (small_any sb so n cap dao dlen dcap w hn HS.out.hD (fun i hi => (HS.out.hlen i hi).2)).mono ?_
  rintro e w1 ⟨b, rfl, hb, hw1⟩
  obtain rfl : w = w1 := hw1.symm
  clear hw1
  cases b with
  | false =>
    go_wp2
    go_ret
    exact ⟨rfl, (Below.rf _).is_ext⟩
  | true =>
    obtain ⟨hn1, hdl⟩ := hb rfl
    have HDL := hid hdl
    clear hb hdl
    go_wp2_with fail
    refine (floors_any sb so n cap K A B dao dlen dcap f w HS.out HG.out HDR.out hn1 HDL.out).mono ?_
    rintro e w1 ⟨v, fbs, rfl, hfl, hF⟩
    obtain ⟨ao, cp, rfl⟩ : ∃ ao cp, v = .slice ao fbs.length cp := by
      rcases hF.own.2 with ⟨h1, h2⟩ | ⟨g, cap, cur, h1, _⟩
      · exact ⟨none, 0, by rw [h2]; exact h1⟩
      · exact ⟨some ⟨g, 0, none⟩, cap, h1⟩
    have HF := hid hF
    obtain ⟨m, hm⟩ : ∃ m, fbs.length = m := ⟨_, rfl⟩
    have HM := hid hm
    rw [hm] at hfl ⊢
    clear hF hm
    go_wp2_with fail
    go_loopw [21] (fun x wr => ∃ i : Nat, i ≤ m ∧ x = .int .i64 (i) ∧ Below w1.heap.size w1 wr) (fun x _ => m - (intOf x).toNat)
    case atStart => exact ⟨0, Nat.zero_le _, rfl, Below.rf _⟩
    case round =>
      obtain ⟨i, hi, rfl, hB⟩ := hrel
      have HB := hid hB
      have hsz := hB.size
      by_cases hlt : i < m
      · obtain ⟨g, cap', fb, hv, hcap, hg, hmem, hcell⟩ := ptr_at (HF.out.ext hB) (i := i) (by rw [HM.out]; exact hlt)
        simp only [Value.slice.injEq] at hv
        obtain ⟨rfl, -, rfl⟩ := hv
        obtain ⟨F, sb2, cb2, tb, db, NN, dist, dia, D, rfl, hFlo, -⟩ := (HF.out.ext hB).has fb hmem
        rw [HM.out] at hcap
        have hN := hFlo.hN
        have hp := hFlo.fl.pln
        have HFL := hid hFlo
        have bi : decide ((i : Int) < m) = true := by simp; omega
        clear hmem hB hFlo
        go_wp2_with (go_at_call 13; refine (cells_any F _ HFL.out.fl).mono ?_; rintro e w3 ⟨rfl, rfl⟩)
        go_loopw [6] (fun x wr => ∃ a : Nat, a ≤ F.N ∧ x = .int .i64 (a) ∧ Below w3.heap.size w3 wr) (fun x _ => F.N - (intOf x).toNat)
        case atStart => exact ⟨0, Nat.zero_le _, rfl, Below.rf _⟩
        case round =>
          obtain ⟨a, ha, rfl, hB2⟩ := hrel
          have HB2 := hid hB2
          have hs2 := hB2.size
          by_cases hla : a < F.N
          · have hFl2 := HFL.out.below hB2
            have ba : decide ((a : Int) < F.N) = true := by simp; omega
            obtain ⟨an, han⟩ : ∃ an, an = a * F.N := ⟨_, rfl⟩
            have HAN := hid han
            clear hB2 han
            go_wp2_with (first | (go_at_call 17; refine (field_any F sb2 cb2 tb db NN dist dia D a an _ hFl2 hla HAN.out).mono ?_; rintro e w' ⟨rfl, z1, rfl⟩) | (go_at_call 18; refine (goal_any a _ _).mono ?_; rintro e w5 ⟨rfl, hz5⟩))
            have c0 : w5.cell? ⟨wr.heap.size + z1.heap.size, 0, none⟩ = some (.int .i64 (a)) := by obtain ⟨z, rfl⟩ := hz5; simp [go_sem, ↓IntWalk.iteOmega]
            have c1 : w5.cell? ⟨wr.heap.size + z1.heap.size, 1, none⟩ = some (.slice (some ⟨db, an, none⟩) F.N F.N) := by obtain ⟨z, rfl⟩ := hz5; simp [go_sem, ↓IntWalk.iteOmega]
            have hB5 : Below wr.heap.size wr w5 := by
              obtain ⟨z, rfl⟩ := hz5
              exact ((World.below_ext wr z1).al _).ex _
            have hs5 : wr.heap.size + z1.heap.size < w5.heap.size := by obtain ⟨z, rfl⟩ := hz5; simp; omega
            have HF5 := hid (hFl2.below hB5)
            have HB5 := hid hB5
            clear hz5 hB5
            obtain ⟨B, hBe⟩ : ∃ B, wr.heap.size + z1.heap.size = B := ⟨_, rfl⟩
            rw [hBe] at c0 c1 hs5 ⊢
            clear hBe
            go_loopw [9] (fun x wr => ∃ b : Nat, b ≤ F.N ∧ x = .int .i64 (b) ∧ Below w5.heap.size w5 wr) (fun x _ => F.N - (intOf x).toNat)
            case atStart => exact ⟨0, Nat.zero_le _, rfl, Below.rf _⟩
            case round =>
              clear hFl2 hcell
              rename_i wr0 _ _ _ _ _ _ _
              obtain ⟨b, hbN, rfl, hB6⟩ := hrel
              have HB6 := hid hB6
              have hs6 := hB6.size
              have hFl6 := HF5.out.below hB6
              have d0 := cell_below hB6 hs5 c0
              have d1 := cell_below hB6 hs5 c1
              by_cases hlb : b < F.N
              · have bb : decide ((b : Int) < F.N) = true := by simp; omega
                obtain ⟨dd, hdd⟩ : ∃ dd, F.dst a b = dd := ⟨_, rfl⟩
                have hd4 := (hFl6.dst hla hlb).2
                rw [hdd] at hd4
                have HDD := hid hdd
                obtain ⟨la, hla2⟩ : ∃ la, (F.adj b).length = la := ⟨_, rfl⟩
                obtain ⟨no, hno⟩ : ∃ no, F.no b = no := ⟨_, rfl⟩
                have hla4 : la ≤ 4 := by rw [← hla2]; exact F.adjTo_len b 4
                have HLA := hid hla2
                have HNO := hid hno
                clear hB6 hdd hla2 hno
                go_wp2_with (first | (go_at_call 19; refine (tableDist_any F sb2 cb2 tb db NN dist dia D a b dd _ hFl6 hla hlb HDD.out).mono ?_; rintro e w' ⟨rfl, z6, rfl⟩) | (go_at_call 20; refine (dist_is F a b dd _ (hFl6.ex _).fl hla hlb HDD.out).mono ?_; rintro e w' ⟨rfl, z7, rfl⟩) | (go_at_call 21; refine (at_any F sb2 cb2 tb db NN dist dia D a an b dd _ (hFl6.ex _) hla HAN.out hlb HDD.out).mono ?_; rintro e w' ⟨rfl, z8, rfl⟩) | (go_at_call 22; refine (diameter_any F sb2 cb2 tb db NN dist dia D _ (hFl6.ex _)).mono ?_; rintro e w' ⟨rfl, rfl⟩) | (go_at_call 15; refine (neighbors_is F sb2 cb2 b la no _ (hFl6.ex _).fl (hFl6.ex _).lk hN.2 hlb HLA.out HNO.out).mono ?_; rintro e w7 ⟨rfl, hz7⟩))
                have hB7 : Below w5.heap.size w5 w7 := HB6.out.trans ((((World.below_ext _ _).trans ((ext_below' hz7).mono (by simp only [World.size_ext]; omega)))).mono hs6)
                have hs7 := hB7.size
                have HF7 := hid (HF5.out.below hB7)
                have HB7 := hid hB7
                have e0 := cell_below hB7 hs5 c0
                have e1 := cell_below hB7 hs5 c1
                clear hz7 hB7
                go_loopw [78] (fun x wr => ∃ t : Nat, t ≤ la ∧ x = .int .i64 (t) ∧ Below w7.heap.size w7 wr) (fun x _ => la - (intOf x).toNat)
                case atStart => exact ⟨0, Nat.zero_le _, rfl, Below.rf _⟩
                case round =>
                  clear hFl6 d0 d1
                  obtain ⟨t, ht, rfl, hB8⟩ := hrel
                  have HB8 := hid hB8
                  have hs8 := hB8.size
                  have hFl8 := HF7.out.below hB8
                  have f0 := cell_below hB8 (Nat.lt_of_lt_of_le hs5 hs7) e0
                  have f1 := cell_below hB8 (Nat.lt_of_lt_of_le hs5 hs7) e1
                  by_cases hlt : t < la
                  · have hta : t < (F.adj b).length := by rw [HLA.out]; exact hlt
                    have cn := hFl8.lk.nb hlb hta
                    have hbm : (F.adj b)[t] ∈ F.adj b := List.getElem_mem hta
                    rw [HNO.out] at cn
                    generalize (F.adj b)[t] = x at *
                    have hxN := adj_lt hp.pl hlb hbm
                    have hcbs := hFl8.lk.lt.2
                    obtain ⟨dx, hdx⟩ : ∃ dx, F.dst a x = dx := ⟨_, rfl⟩
                    have HDX := hid hdx
                    have hl1 := dst_lips hp hla hlb hbm
                    have hl2 := dst_lips hp hla hxN (adj_symm hp.pl hlb hbm)
                    rw [hdx, HDD.out] at hl1 hl2
                    have bt : decide ((t : Int) < la) = true := by simp; omega
                    clear hB8 hdx hbm
                    go_wp2_with (go_at_call 21; refine (at_any F sb2 cb2 tb db NN dist dia D a an x dx _ hFl8 hla HAN.out hxN HDX.out).mono ?_; rintro e w' ⟨rfl, z9, rfl⟩)
                    go_roundw
                    case rel => exact ⟨t + 1, by omega, by go_num, HB8.out.ex _⟩
                    case measure => simp [intOf]; omega
                  · clear hB8
                    go_wp2_with fail
                    refine (path_any F sb2 cb2 tb db NN dist dia D a b _ hFl8 hla hlb).mono ?_
                    rintro e w9 ⟨T, g9, cp9, rfl, hTl, hT, hg9, hcp9, hrow, hz9⟩
                    rw [HDD.out] at *
                    have hB9 : Below w5.heap.size w5 w9 := HB7.out.trans ((HB8.out.trans ((ext_below' hz9).mono hs8)).mono hs7)
                    have hFl9 := HF5.out.below hB9
                    have k0 := hrow 0 a hT.hd
                    have k1 := hrow dd b (by have := hT.tl; rw [hTl] at this; exact this)
                    have HW := hid (isWalk_ok F sb2 cb2 g9 (dd + 1) cp9 T w9 hFl9.fl hFl9.lk hN.2 hg9 hT.toWlk hTl (by omega) (by omega) hrow)
                    have HB9 := hid hB9
                    clear hTl hT hrow hz9 hB9
                    go_wp2_with (go_at_call 24; refine HW.out.mono ?_; rintro e w10 ⟨rfl, rfl⟩)
                    go_roundw
                    case rel => exact ⟨b + 1, by omega, by go_num, HB9.out⟩
                    case measure => simp [intOf]; omega
              · go_wp2
                go_roundw
                case rel => exact ⟨a + 1, by omega, by go_num, HB2.out.trans ((HB5.out.trans (HB6.out.mono HB5.out.size)).mono hs2)⟩
                case measure => simp [intOf]; omega
          · go_wp2
            go_roundw
            case rel => exact ⟨i + 1, by omega, by go_num, HB.out.trans (HB2.out.mono hsz)⟩
            case measure => simp [intOf]; omega
      · go_wp2
        go_ret
        exact ⟨rfl, (HF.out.below.trans (HB.out.mono HF.out.below.size)).is_ext⟩
end Go.Proofs.Qxb6500715aDoor
