/-
  ParkingOffAisles: the walk.
-/
import Derived.Test.Qxb6500715aDoorReach2
import Derived.Test.Qxb6500715aDoorLaw3
namespace Go.Proofs.Qxb6500715aDoor
open Go.RowKit Go.Maps
set_option linter.unusedSimpArgs false
set_option linter.unusedVariables false

theorem depot_spec {F : FP} (hp : Pln F) : F.id (F.W + F.c) < F.N ∧ F.pl (F.id (F.W + F.c)) = F.W + F.c ∧ F.kd (F.pl (F.id (F.W + F.c))) = 5 := by
  have hc : F.c < F.W := by rw [hp.hW]; exact hp.lay.hc
  have hs := id_spec hp.pl (r := 1) (q := F.c) (by omega) hc (by rw [k_front hp hc]; rfl)
  have e : 1 * F.W + F.c = F.W + F.c := by omega
  rw [e] at hs
  refine ⟨hs.1, hs.2.1, ?_⟩
  rw [hs.2.1, ← e]; exact k_front hp hc

theorem bays_succ (F : FP) (k : Nat) : F.bays (k + 1) = F.bays k ++ [F.bay k] := by simp [FP.bays, List.range_succ]

theorem ext_below {w w' : World} (h : ∃ z, w' = w.ext z) : Below w.heap.size w w' := by
  obtain ⟨z, rfl⟩ := h
  exact World.below_ext _ _

set_option maxRecDepth 20000 in
set_option maxHeartbeats 4000000 in
theorem law7 (sb so n cap : Nat) (K A B : Nat → Int) (dao : Nat → Option Addr) (dlen dcap : Nat → Nat) (f : Nat → Nat → Int) (w : World) (hG : Globs w) (hDr : Dirs w) (hS : Script w sb so n K A B dao dlen dcap f) (hn : n ≤ 9223372036854775807) :
    Calls Tryd.prog 7 #[.slice (some ⟨sb, so, none⟩) n cap] w fun e w' => e = .returned (.bool true) ∧ ∃ z, w' = w.ext z := by
  have HS := hid hS
  have HG := hid hG
  have HDR := hid hDr
  clear hS hG hDr
  go_enter Tryd.func7, Tryd.ntmps7
  go_wp2_with fail
  refine (small_any sb so n cap dao dlen dcap w hn HS.out.hD (fun i hi => (HS.out.hlen i hi).2)).mono ?_
  rintro e w1 ⟨b, rfl, hb, hw1⟩
  obtain rfl : w = w1 := hw1.symm
  clear hw1
  cases b with
  | false =>
    go_wp2
    go_ret
    exact ⟨rfl, (Below.rf _).is_ext⟩
  | true =>
    obtain ⟨hn1, hdl⟩ := hb rfl
    have HDL := hid hdl
    clear hb hdl
    go_wp2_with fail
    refine (floors_any sb so n cap K A B dao dlen dcap f w HS.out HG.out HDR.out hn1 HDL.out).mono ?_
    rintro e w1 ⟨v, fbs, rfl, hfl, hF⟩
    obtain ⟨ao, cp, rfl⟩ : ∃ ao cp, v = .slice ao fbs.length cp := by
      rcases hF.own.2 with ⟨h1, h2⟩ | ⟨g, cap, cur, h1, _⟩
      · exact ⟨none, 0, by rw [h2]; exact h1⟩
      · exact ⟨some ⟨g, 0, none⟩, cap, h1⟩
    have HF := hid hF
    obtain ⟨m, hm⟩ : ∃ m, fbs.length = m := ⟨_, rfl⟩
    have HM := hid hm
    rw [hm] at hfl ⊢
    clear hF hm
    go_wp2_with fail
    go_loopw [18] (fun x wr => ∃ i : Nat, i ≤ m ∧ x = .int .i64 (i) ∧ Below w1.heap.size w1 wr) (fun x _ => m - (intOf x).toNat)
    case atStart => exact ⟨0, Nat.zero_le _, rfl, Below.rf _⟩
    case round =>
      obtain ⟨i, hi, rfl, hB⟩ := hrel
      have HB := hid hB
      have hsz := hB.size
      by_cases hlt : i < m
      · obtain ⟨g, cap', fb, hv, hcap, hg, hmem, hcell⟩ := ptr_at (HF.out.ext hB) (i := i) (by rw [HM.out]; exact hlt)
        simp only [Value.slice.injEq] at hv
        obtain ⟨rfl, -, rfl⟩ := hv
        obtain ⟨F, sb2, cb2, tb, db, NN, dist, dia, D, rfl, hFlo, -⟩ := (HF.out.ext hB).has fb hmem
        rw [HM.out] at hcap
        have hN := hFlo.hN
        have hp := hFlo.fl.pln
        have HFL := hid hFlo
        have hfl0 := hFlo.fl
        have hmm := @run_makeMap Tryd.prog
        obtain ⟨hd1, hd2, hd3⟩ := depot_spec hp
        have HD3 := hid hd3
        obtain ⟨dep, hdep⟩ : ∃ dep, F.id (F.W + F.c) = dep := ⟨_, rfl⟩
        have HDEP := hid hdep
        have hdc : ∀ w', FlN w' F → Calls Tryd.prog 32 #[.pointer (some ⟨F.fb, 0, none⟩)] w' fun e w'' => e = .returned (.int .i64 (dep)) ∧ w'' = w' := fun w' h' => hdep ▸ depot_any F w' h'
        rw [hdep] at hd1
        have hkd : F.kd (F.pl dep) = 5 := by rw [← hdep]; exact hd3
        have HKD := hid hkd
        have hfN : F.n ≤ 6 := hp.lay.hn.2
        have bi : decide ((i : Int) < m) = true := by simp; omega
        clear hmem hB hFlo hd2 hd3 hdep hkd
        go_wp2_with (first | (go_at_call 32; refine (hdc _ hfl0).mono ?_; rintro e w3 ⟨rfl, rfl⟩) | (go_at_call 31; refine (kindOf_is F dep 5 _ hfl0 hd1 HKD.out).mono ?_; rintro e w4 ⟨rfl, hz4⟩))
        go_loopw [6] (fun x wr => ∃ a : Nat, a ≤ F.n ∧ x = .int .i64 (a) ∧ SetAt wr w4.heap.size (F.bays a) ∧ Below w4.heap.size w4 wr) (fun x _ => F.n - (intOf x).toNat)
        case atStart => exact ⟨0, Nat.zero_le _, rfl, SetAt.made w4, (Below.rf _).al _⟩
        case round =>
          obtain ⟨a, ha, rfl, hset, hB2⟩ := hrel
          have HB4 : Hid (Below w3.heap.size w3 w4) := ext_below hz4
          have hs34 := HB4.out.size
          have hB23 := HB4.out.trans (hB2.mono hs34)
          have HB23 := hid hB23
          have HB2 := hid hB2
          have hs2 := hB2.size
          have hFl2 : FlN wr F := hfl0.below hB23
          have hLk2 : Lnk wr F sb2 cb2 := HFL.out.lk.below hB23
          by_cases hla : a < F.n
          · obtain ⟨⟨b1, b2⟩, b3, b4, b5, b6, b7⟩ := bay_spec hp hla
            obtain ⟨gt, hadj, hgN, hgk⟩ := bay_adj hp hla
            have hpk := parking_yes F a wr hFl2 hla
            obtain ⟨bb, hbb⟩ : ∃ bb, F.bay a = bb := ⟨_, rfl⟩
            have hk7 : F.kd (F.pl bb) = 7 := by rw [← hbb, b5]; exact b3
            have hnm : bb ∉ F.bays a := fun hm => by
              simp [FP.bays] at hm
              obtain ⟨r, hr, he⟩ := hm
              have := bay_inj hp (by omega) hla (he.trans hbb.symm)
              omega
            rw [hbb] at hpk hadj b4
            have hlk := hset.lookup bb (by omega)
            rw [decide_eq_false hnm] at hlk
            have ba : decide ((a : Int) < F.n) = true := by simp; omega
            have hlen1 : (F.adj bb).length = 1 := by rw [hadj]; rfl
            obtain ⟨no, hno⟩ : ∃ no, F.no bb = no := ⟨_, rfl⟩
            have HK7 := hid hk7
            have HL1 := hid hlen1
            have HNO := hid hno
            have HSET := hid hset
            have HBB := hid hbb
            have hta : 0 < (F.adj bb).length := by omega
            have cn := hLk2.nb b4 hta
            have e0 : (F.adj bb)[0] = gt := by simp only [hadj]; rfl
            rw [e0, hno, Nat.add_zero] at cn
            have hcbs := hLk2.lt.2
            obtain ⟨gk, hgk2⟩ : ∃ gk, F.kd (F.pl gt) = gk := ⟨_, rfl⟩
            rw [hgk2] at hgk
            have HGK := hid hgk2
            clear hset hB2 hB23 hz4 b1 b2 b3 b5 b6 b7 hbb hadj hk7 hnm hno hlen1 e0 hgk2
            go_wp2_with (first | (go_at_call 33; refine (robotsF_any F _ hFl2).mono ?_; rintro e w6 ⟨rfl, rfl⟩) | (go_at_call 34; refine hpk.mono ?_; rintro e w7 ⟨rfl, rfl⟩) | (go_at_call 31; refine (kindOf_is F bb 7 _ hFl2 b4 HK7.out).mono ?_; rintro e w' ⟨rfl, z7, rfl⟩) | (go_at_call 35; refine (degree_is F sb2 cb2 bb 1 no _ (hFl2.ex _) (hLk2.ex _) hN.2 b4 HL1.out HNO.out).mono ?_; rintro e w' ⟨rfl, z8, rfl⟩) | (go_at_call 15; refine (neighbors_is F sb2 cb2 bb 1 no _ (hFl2.ex _) (hLk2.ex _) hN.2 b4 HL1.out HNO.out).mono ?_; rintro e w' ⟨rfl, z9, rfl⟩) | (go_at_call 36; refine (onCross_yes F gt gk _ (hFl2.ex _) hgN HGK.out hgk).mono ?_; rintro e w10 ⟨rfl, hz10⟩; have hB10 : Below w7.heap.size w7 w10 := Below.trans (World.below_ext w7 _) ((ext_below hz10).mono (by simp [World.size_ext])); obtain ⟨w5, hr5, hset5, hg5⟩ := (HSET.out.below hB10).update bb (by omega) (by simp [FP.bays]; omega); have HSET5 := hid hset5; have HB5 := hid ((HB2.out.trans (hB10.mono hs2)).grown hg5 (Nat.le_trans hs2 hB10.size) (fun k hk => by cases hk; exact Nat.le_refl _)); clear hset5 hg5 hB10 hz10))
            go_roundw
            case rel => exact ⟨a + 1, by omega, by go_num, by rw [bays_succ, HBB.out]; exact HSET5.out, HB5.out⟩
            case measure => simp [intOf]; omega
          · obtain rfl : a = F.n := by omega
            have hln := hset.len (bays_nodup hp (Nat.le_refl _)) 3
            rw [show (F.bays F.n).length = F.n by simp [FP.bays]] at hln
            have HSET := hid hset
            obtain ⟨q, hq⟩ : ∃ q, q = F.A * F.S * F.D := ⟨_, rfl⟩
            have hqb : q ≤ 192 := by
              have b1 : F.A * F.S ≤ 96 := Nat.mul_le_mul hp.lay.hA.2 hp.lay.hS.2
              rw [hq]; exact Nat.mul_le_mul b1 hp.lay.hD.2
            have HQ := hid hq
            clear hset hB2 hB23 hz4 hq
            go_wp2_with (go_at_call 33; refine (robotsF_any F _ hFl2).mono ?_; rintro e w6 ⟨rfl, rfl⟩)
            go_loopw [9] (fun x wr => ∃ s : Nat, s ≤ q ∧ x = .int .i64 (s) ∧ Below w6.heap.size w6 wr) (fun x _ => q - (intOf x).toNat)
            case atStart => exact ⟨0, Nat.zero_le _, rfl, Below.rf _⟩
            case round =>
              obtain ⟨s, hs, rfl, hB3⟩ := hrel
              have HB3 := hid hB3
              have hs3 := hB3.size
              have hFl3 := hFl2.below hB3
              have hLk3 := hLk2.below hB3
              by_cases hls : s < q
              · have hS := hp.lay.hS
                have hpo : s / F.D % F.S < F.S := Nat.mod_lt _ (by omega)
                have hal : s / F.D / F.S < F.A := by
                  rw [Nat.div_div_eq_div_mul]
                  apply Nat.div_lt_of_lt_mul
                  rw [Nat.mul_comm F.D F.S, Nat.mul_comm _ F.A, ← Nat.mul_assoc, ← HQ.out]; exact hls
                obtain ⟨a1, a2, a3, a4⟩ := aisle_spec hp hal hpo
                have hsc : ∀ w', FlN w' F → Calls Tryd.prog 38 #[.pointer (some ⟨F.fb, 0, none⟩), .int .i64 (s)] w' fun e w'' => e = .returned (.tuple #[.int .i64 (F.aisle (s / F.D / F.S) (s / F.D % F.S)), .bool true]) ∧ ∃ z, w'' = w'.ext z := fun w' h' => slotCell_yes F q s w' h' HQ.out hls hqb
                generalize F.aisle (s / F.D / F.S) (s / F.D % F.S) = c at *
                have hk4 : F.kd (F.pl c) = 4 := by rw [a4]; exact a2
                have HK4 := hid hk4
                have bs : decide ((s : Int) < q) = true := by simp; omega
                clear a1 a2 a4 hk4 hB3 hpo hal hln
                go_wp2_with (first | (go_at_call 37; refine (slots_is F q _ hFl3 HQ.out).mono ?_; rintro e w' ⟨rfl, z7, rfl⟩) | (go_at_call 38; refine (hsc _ (hFl3.ex _)).mono ?_; rintro e w' ⟨rfl, z8, rfl⟩) | (go_at_call 31; refine (kindOf_is F c 4 _ (hFl3.ex _) a3 HK4.out).mono ?_; rintro e w' ⟨rfl, z9, rfl⟩))
                go_roundw
                case rel => exact ⟨s + 1, by omega, by go_num, HB3.out.ex _⟩
                case measure => simp [intOf]; omega
              · have hown : ∀ c, c < F.N → decide (0 ≤ ownr F.kd F.W F.px F.py F.n c) = decide (F.kd (F.pl c) = 7) := fun c hc => own_bay hp hc
                have HOWN := hid hown
                have HSET3 := hid (HSET.out.below hB3)
                have hln3 := HSET3.out.len (bays_nodup hp (Nat.le_refl _)) 3
                rw [show (F.bays F.n).length = F.n by simp [FP.bays]] at hln3
                clear hB3 hln hown
                go_wp2_with (first | (go_at_call 37; refine (slots_is F q _ hFl3 HQ.out).mono ?_; rintro e w' ⟨rfl, z7, rfl⟩) | (go_at_call 32; refine (hdc _ (hFl3.ex _)).mono ?_; rintro e w8 ⟨rfl, rfl⟩))
                refine (reachB_any F sb2 cb2 dep (fun c => decide (F.kd (F.pl c) = 7)) _ (hFl3.ex _) (hLk3.ex _) hN.2 hd1 HOWN.out).mono ?_
                rintro e w9 ⟨acc, B9, rfl, hnd, hltN, h0, hnb, hcl, hset9, hz9⟩
                have h7 : ∀ x, x ∈ acc → F.kd (F.pl x) ≠ 7 := fun x hx => by
                  by_cases hxd : x = dep
                  · rw [hxd, HKD.out]; decide
                  · exact of_decide_eq_false (hnb x hx hxd)
                have hall := connN hp (T := fun c => c ∈ acc) (fun c b hc hcT hb hb7 => hcl c b hcT hb (decide_eq_false hb7)) hd1 (by rw [HKD.out]; decide) h0
                have hlenN := rest_len hp hnd hltN h7 hall
                have hln9 := hset9.len hnd 3
                have hB9 := ext_below hz9
                have hfl9 := (hFl3.ex z7).below hB9
                have hln4 := ((HSET3.out.below (World.below_ext _ z7)).below hB9).len (bays_nodup hp (Nat.le_refl _)) 3
                rw [show (F.bays F.n).length = F.n by simp [FP.bays]] at hln4
                obtain ⟨la, hla2⟩ : ∃ la, acc.length = la := ⟨_, rfl⟩
                rw [hla2] at hln9 hlenN
                have HB9 := hid ((HB3.out.ex z7).trans (hB9.mono (by simp only [World.size_ext]; omega)))
                clear hset9 hz9 hnd hltN h0 hnb hcl h7 hall hB9 hla2 hln3
                go_wp2_with (go_at_call 13; refine (cells_any F _ hfl9).mono ?_; rintro e w10 ⟨rfl, rfl⟩)
                go_roundw
                case rel => exact ⟨i + 1, by omega, by go_num, HB.out.trans ((HB23.out.trans (HB9.out.mono (by omega))).mono hsz)⟩
                case measure => simp [intOf]; omega
      · go_wp2
        go_ret
        obtain ⟨z, hz⟩ := HF.out.below.is_ext
        exact ⟨rfl, (HF.out.below.trans (HB.out.mono HF.out.below.size)).is_ext⟩
end Go.Proofs.Qxb6500715aDoor
