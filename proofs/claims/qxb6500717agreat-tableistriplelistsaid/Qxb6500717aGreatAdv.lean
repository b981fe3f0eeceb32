/-
  Advance: the walk.
-/
import Derived.Test.Qxb6500717aGreatAdvP
namespace Go.Proofs.Qxb6500717aGreat
open Go.RowKit
set_option linter.unusedSimpArgs false
set_option linter.unusedVariables false

/-- What 'Advance' answers. -/
def TabS.advC (T : TabS) (to : Int) : Int := if to < T.base then 3 else if 1073741824 < to then 4 else 0
def TabS.advT (T : TabS) (to : Int) : TabS := if to < T.base then T else if 1073741824 < to then T else T.adv to.toNat
/-- The labels of a table's blocks. -/
def tabL (x : Nat) : Prop := 6 ≤ x ∧ x < 26

def advPost (lab : Nat → Nat) (M : TabM) (c : Int) (T' : TabS) (w : World) (e : Ending) (w' : World) : Prop :=
  ∃ M' : TabM, e = .returned (.int .u8 c) ∧ TAt w' lab M' T' ∧ Con T' ∧ M'.t = M.t ∧ KeptL lab tabL w w'

theorem Con.rebase {T : TabS} (h : Con T) (n : Nat) : Con { T with base := n } := ⟨h.held, h.gp, h.pg⟩

set_option maxRecDepth 20000 in
set_option maxHeartbeats 4000000 in
theorem adv_any (M : TabM) (T : TabS) (lab : Nat → Nat) (to : Int) (w : World) (h : TAt w lab M T) (hc : Con T) :
    Calls Tryz.prog 26 #[.pointer (some ⟨M.t, 0, none⟩), .int .i64 (to)] w (advPost lab M (T.advC to) (T.advT to) w) := by
  have HH := hid h
  have HC := hid hc
  have c3 := h.c3
  have hb := h.bd.base
  have hnr := h.bd.nr
  have hl := h.bt.lt
  unfold TabS.advC TabS.advT
  by_cases h1 : to < T.base
  · rw [if_pos h1, if_pos h1]
    clear h hc
    go_enter Tryz.func26, Tryz.ntmps26
    go_wp2
    go_ret
    exact ⟨M, rfl, HH.out, HC.out, rfl, KeptL.refl _ _ _⟩
  rw [if_neg h1, if_neg h1]
  by_cases h2 : 1073741824 < to
  · rw [if_pos h2, if_pos h2]
    clear h hc
    go_enter Tryz.func26, Tryz.ntmps26
    go_wp2
    go_ret
    exact ⟨M, rfl, HH.out, HC.out, rfl, KeptL.refl _ _ _⟩
  rw [if_neg h2, if_neg h2]
  obtain ⟨to, rfl⟩ : ∃ n : Nat, to = n := ⟨to.toNat, by omega⟩
  rw [Int.toNat_natCast]
  unfold TabS.adv
  obtain ⟨d, hd⟩ : ∃ d, TabS.dropA T.base (min to (T.base + 256) - T.base) T = d := ⟨_, rfl⟩
  have HD := hid hd
  obtain ⟨G, hG⟩ : ∃ G, TabS.keepN to 0 T.nr { d with base := to } = G := ⟨_, rfl⟩
  have HG := hid hG
  rw [hd, hG]
  clear h hc hd hG
  by_cases h3 : to ≤ T.base + 256
  · have hm : min to (T.base + 256) = to := by omega
    rw [hm] at HD
    clear hm
    go_enter Tryz.func26, Tryz.ntmps26
    go_wp2
    go_loopw [5] (fun x wr => ∃ (k : Nat) (T1 : TabS), x = .int .i64 (k) ∧ T.base ≤ k ∧ k ≤ to ∧ TAt wr lab M T1 ∧ Con T1 ∧ T1.base = T.base ∧ T1.nr = T.nr ∧ TabS.dropA k (to - k) T1 = d ∧ KeptL lab tabL w wr) (fun x _ => to - (intOf x).toNat)
    case atStart => exact ⟨T.base, T, rfl, Nat.le_refl _, by omega, HH.out, HC.out, rfl, rfl, HD.out, KeptL.refl _ _ _⟩
    case round =>
      clear c3
      obtain ⟨k, T1, rfl, hk1, hk2, hT, hC, hb1, hn1, hdd, hK⟩ := hrel
      have HT := hid hT
      have HC1 := hid hC
      have HK := hid hK
      have HB1 := hid hb1
      have HN1 := hid hn1
      have HDD := hid hdd
      have EN := hid (end_any M T1 lab wr hT)
      rw [hb1] at EN
      clear hT hC hK hb1 hn1 hdd
      by_cases hlt : k < to
      · have bk : decide ((k : Int) < to) = true := by simp; omega
        go_wp2_with (go_at_call 66; refine EN.out.mono ?_; rintro e w2 ⟨rfl, hw'⟩; obtain rfl := hw')
        go_loopw [6] (fun x w3 => ∃ (j : Nat) (T2 : TabS), x = .int .i64 (j) ∧ j ≤ T.nr ∧ TAt w3 lab M T2 ∧ Con T2 ∧ T2.base = T.base ∧ T2.nr = T.nr ∧ TabS.dropR k j (T.nr - j) T2 = TabS.dropR k 0 T.nr T1 ∧ KeptL lab tabL w w3) (fun x _ => T.nr - (intOf x).toNat)
        case atStart => exact ⟨0, T1, rfl, by omega, HT.out, HC1.out, HB1.out, HN1.out, rfl, HK.out⟩
        case round =>
          obtain ⟨j, T2, rfl, hj, hT2, hC2, hb2, hn2, hdr, hK2⟩ := hrel
          have HT2 := hid hT2
          have HC2 := hid hC2
          have HK2 := hid hK2
          have HB2 := hid hb2
          have HN2 := hid hn2
          have c1 := hT2.c1
          have l1 := hT2.bt.lt
          rw [hn2] at c1
          by_cases hjl : j < T.nr
          · have hmod : k % 256 < 256 := Nat.mod_lt _ (by omega)
            have DR := hid (drop_any M T2 lab j k _ _ hT2 (by rw [hn2]; exact hjl) (by omega) rfl (fun hp => hC2.pos (by rw [hn2]; exact hjl) hmod hp))
            rw [show T.nr - j = T.nr - (j + 1) + 1 by omega] at hdr
            simp only [TabS.dropR] at hdr
            have HDR := hid hdr
            clear hT2 hC2 hK2 hb2 hn2 hdr
            go_wp2_with (go_at_call 67; refine hold ?_)
            unfold Hid
            refine DR.out.mono ?_
            rintro e w4 ⟨rfl, hT4, hK4⟩
            have HT4 := hid hT4
            have HK4 := hid hK4
            have HC4 := hid (HC2.out.drop (by rw [HN2.out]; exact hjl) hmod HT2.out.bd)
            clear hT4 hK4 DR
            go_wp2
            go_roundw
            case rel => exact ⟨j + 1, _, by go_num, by omega, HT4.out, HC4.out, by rw [TabS.drop_base]; exact HB2.out, by rw [TabS.drop_nr]; exact HN2.out, HDR.out, HK2.out.trans (HK4.out.mono (fun x hx => by unfold tabL; omega))⟩
            case measure => simp [intOf]; omega
          · rw [show T.nr - j = 0 by omega] at hdr
            simp only [TabS.dropR] at hdr
            have HDR := hid hdr
            clear hT2 hC2 hK2 hb2 hn2 hdr
            go_wp2
            go_roundw
            case rel =>
              refine ⟨k + 1, T2, by go_num, by omega, by omega, HT2.out, HC2.out, HB2.out, HN2.out, ?_, HK2.out⟩
              have := HDD.out
              rw [show to - k = to - (k + 1) + 1 by omega] at this
              simp only [TabS.dropA] at this
              rw [HN1.out, ← HDR.out] at this
              exact this
            case measure => simp [intOf]; omega
      · have hke : k = to := by omega
        have HKE := hid hke
        have bk : decide ((k : Int) < to) = false := by simp; omega
        have hd2 := HDD.out
        rw [show to - k = 0 by omega] at hd2
        simp only [TabS.dropA] at hd2
        have HD2 := hid hd2
        have f3 := HT.out.bt.fz 3 (by omega)
        have c7 := HT.out.c7
        have c3 := HT.out.c3
        have l1 := HT.out.bt.lt
        have HT4 := hid (HT.out.setB to (by omega))
        have HC4 := hid (HC1.out.rebase to)
        have HK4 := hid (HK.out.set (b := M.t) (i := 3) (by rw [HT.out.lt]; unfold tabL; omega) (.int .i64 (to)))
        rw [HN1.out] at c7
        have hGd := HG.out
        rw [← HD2.out] at hGd
        have HGD := hid hGd
        clear hke hd2 hGd
        go_wp2_with (go_at_call 66; refine EN.out.mono ?_; rintro e w2 ⟨rfl, hw'⟩; obtain rfl := hw')
        go_loopw [55] (fun x w5 => ∃ (j : Nat) (sv5 : Nat → Value) (T5 : TabS), x = .int .i64 (j) ∧ j ≤ T.nr ∧ TAt w5 lab { M with sv := sv5 } T5 ∧ Con T5 ∧ T5.nr = T.nr ∧ TabS.keepN to j (T.nr - j) T5 = G ∧ KeptL lab tabL w w5) (fun x _ => T.nr - (intOf x).toNat)
        case atStart => exact ⟨0, M.sv, _, rfl, by omega, HT4.out, HC4.out, HN1.out, HGD.out, HK4.out⟩
        case round =>
          clear c7 c3 f3 l1 bk
          obtain ⟨j, sv5, T5, rfl, hj, hT5, hC5, hn5, hkn, hK5⟩ := hrel
          have HT5 := hid hT5
          have HC5 := hid hC5
          have HK5 := hid hK5
          have HN5 := hid hn5
          have l1 : M.t < wr.heap.size := hT5.bt.lt
          have l2 : M.s < wr.heap.size := hT5.bs.lt
          by_cases hjl : j < T.nr
          · have hr5 : j < T5.nr := by rw [hn5]; exact hjl
            have cs : wr.cell? ⟨M.s, j, none⟩ = some (sv5 j) := hT5.bs.is j hr5
            have SP := hid (hT5.bsr j hr5)
            obtain ⟨ao, cap, hv⟩ := SP.out.val
            obtain ⟨n, hn⟩ : ∃ n, (T5.sp j).length = n := ⟨_, rfl⟩
            have hspl := hC5.sp_le hr5
            have hcap := hT5.bd.cap
            have hheld := hT5.bd.held
            rw [hn] at hv hspl
            have hv' : sv5 j = .slice ao n cap := hv
            rw [hv'] at cs
            have hsl : ∀ w, (Instr.sliceAt 105 (.slice ao n cap) none (some (.int .i64 (0))) none).run Tryz.prog w = .ok (.slice ao 0 cap) w := by
              obtain ⟨ao', cap', h1, h2, h3⟩ := SP.out.ex
              rw [hn] at h1
              have h1' := hv'.symm.trans h1
              simp only [Value.slice.injEq, true_and] at h1'
              obtain ⟨rfl, rfl⟩ := h1'
              rcases h3 with ⟨rfl, rfl⟩ | ⟨b, rfl, hl, hp⟩
              · rw [hn] at h2
                obtain rfl : n = 0 := by omega
                exact slice_nil0
              · exact slice_sp b 0 n cap (by omega) (by omega)
            have HNN := hid hn
            have HV := hid hv'
            rw [show T.nr - j = T.nr - (j + 1) + 1 by omega] at hkn
            simp only [TabS.keepN] at hkn
            have HKN := hid hkn
            clear hT5 hC5 hK5 hn5 hv hv' hn hkn
            go_wp2
            go_loopw [9, 64] (fun y x w6 => ∃ (i k : Nat) (l : List (Nat × Nat × Nat)), x = .int .i64 (i) ∧ y = .slice ao k cap ∧ i ≤ n ∧ k ≤ i ∧ l.length = n ∧ l.take k = keepSp to ((T5.sp j).take i) ∧ l.drop i = (T5.sp j).drop i ∧ TAt w6 lab { M with sv := sv5 } { T5 with held := T5.held - (i - k), sp := upd T5.sp j l } ∧ KeptL lab tabL w w6) (fun _ x _ => n - (intOf x).toNat)
            case atStart =>
              refine ⟨0, 0, T5.sp j, rfl, rfl, by omega, by omega, HNN.out, by simp [keepSp], rfl, ?_, HK5.out⟩
              have : upd T5.sp j (T5.sp j) = T5.sp := by funext i; unfold upd; split <;> simp [*]
              rw [this]; exact HT5.out
            case round =>
              clear cs l1 l2
              obtain ⟨i, k, l, rfl, rfl, hi, hki, hln, htk, hdp, hT6, hK6⟩ := hrel
              have HT6 := hid hT6
              have HK6 := hid hK6
              have HLN := hid hln
              have HTK := hid htk
              have HDP := hid hdp
              have c4 : wr.cell? ⟨M.t, 4, none⟩ = some (.int .i64 ((T5.held - (i - k) : Nat))) := hT6.c4
              have c7 : wr.cell? ⟨M.t, 7, none⟩ = some (.slice (some ⟨M.s, 0, none⟩) T5.nr T5.nr) := hT6.c7
              have f4 : wr.frozen? ⟨M.t, 4, none⟩ = false := hT6.bt.fz 4 (by omega)
              have fs : wr.frozen? ⟨M.s, j, none⟩ = false := hT6.bs.fz j hr5
              have cs : wr.cell? ⟨M.s, j, none⟩ = some (.slice ao n cap) := (hT6.bs.is j hr5).trans (congrArg some HV.out)
              have l1 : M.t < wr.heap.size := hT6.bt.lt
              have l2 : M.s < wr.heap.size := hT6.bs.lt
              have n1 : M.s ≠ M.t := fun e => by have h1 : lab M.s = 9 := hT6.ls; have h2 : lab M.t = 6 := hT6.lt; rw [e, h2] at h1; omega
              have hS := hT6.bsr j hr5
              rw [show (TabM.sv { M with sv := sv5 }) j = .slice ao n cap from HV.out, show (TabS.sp { T5 with held := T5.held - (i - k), sp := upd T5.sp j l }) j = l from upd_at _ _ _] at hS
              have HS := hid hS
              by_cases hin : i < n
              · have hil : i < (T5.sp j).length := by rw [HNN.out]; omega
                have hx : (T5.sp j)[i]? = some (T5.sp j)[i] := List.getElem?_eq_getElem hil
                generalize (T5.sp j)[i] = x at *
                have hxl : l[i]? = some x := by
                  have h1 := congrArg (fun z => z[0]?) hdp
                  simp only [List.getElem?_drop, Nat.add_zero] at h1
                  rw [h1]; exact hx
                obtain ⟨b, cap', hv2, hlc, hbl, q1, q2, q3⟩ := hS.at i x hxl
                simp only [Value.slice.injEq] at hv2
                obtain ⟨rfl, -, rfl⟩ := hv2
                rw [show 3 * i = i * 3 by omega] at q1 q2 q3
                obtain ⟨hp1, hp2, hp3, hp4⟩ := hS.pad
                have HP4 := hid hp4
                have hblt := hp4.lt
                have nb : b ≠ M.t ∧ b ≠ M.s := ⟨fun e => by have h2 : lab M.t = 6 := hT6.lt; rw [e, h2] at hp3; omega, fun e => by have h2 : lab M.s = 9 := hT6.ls; rw [e, h2] at hp3; omega⟩
                have hxb := HT5.out.bd.sp j x hr5 (List.mem_of_getElem? hx)
                have hsn := keepSp_snoc to (T5.sp j) i x hx
                have hd1 : l.drop (i + 1) = (T5.sp j).drop (i + 1) := by
                  have h1 := congrArg (List.drop 1) hdp
                  simpa [List.drop_drop, Nat.add_comm] using h1
                have HD1 := hid hd1
                by_cases hun : x.2.2 ≤ to
                · rw [if_pos hun, ← htk] at hsn
                  have HSN := hid hsn.symm
                  have bu : decide (x.2.2 ≤ to) = true := by simp; omega
                  clear hT6 hK6 hln htk hdp hS hx hxl hsn hd1 hp1 hp3 hp4
                  go_wp2
                  go_roundw
                  case rel =>
                    refine ⟨i + 1, k, l, by go_num, rfl, by omega, by omega, HLN.out, HSN.out, HD1.out, ?_, ?_⟩
                    · have h1 := HT6.out.setH (T5.held - (i + 1 - k)) (by show T5.held - (i + 1 - k) ≤ T5.cap; omega)
                      rw [show ((T5.held - (i + 1 - k) : Nat) : Int) = ((T5.held - (i - k) : Nat) : Int) - 1 by omega] at h1
                      exact h1.below (by (repeat (first | with_reducible exact Below.rf _ | with_reducible exact World.below_ext _ _ | with_reducible refine Below.ex ?_ _ | with_reducible refine Below.al ?_ _ | with_reducible refine Below.setCell ?_ (by simp) _ | with_reducible refine Below.drew ?_)))
                    · exact (HK6.out.set (b := M.t) (by rw [HH.out.lt]; unfold tabL; omega) _).trans (KeptL.of_below (by (repeat (first | with_reducible exact Below.rf _ | with_reducible exact World.below_ext _ _ | with_reducible refine Below.ex ?_ _ | with_reducible refine Below.al ?_ _ | with_reducible refine Below.setCell ?_ (by simp) _ | with_reducible refine Below.drew ?_))))
                  case measure => simp [intOf]; omega
                · rw [if_neg hun, ← htk] at hsn
                  have HSN := hid hsn
                  have bu : decide (x.2.2 ≤ to) = false := by simp; omega
                  have hkl : k < l.length := by omega
                  have hcap2 : k < cap := by omega
                  clear hT6 hK6 hln htk hdp hS hx hxl hsn hd1 hp1 hp3 hp4
                  rcases (by omega : (x.2.1 < to ∧ max x.2.1 to = to) ∨ (¬ x.2.1 < to ∧ max x.2.1 to = x.2.1)) with ⟨hmx, hmy⟩ | ⟨hmx, hmy⟩
                  · rw [hmy] at HSN
                    clear hmy
                    go_wp2_with (at_builtin; refine hold ?_)
                    unfold Hid
                    refine wp_over rfl _ _ rfl b k cap l rfl (HP4.out.below (by (repeat (first | with_reducible exact Below.rf _ | with_reducible exact World.below_ext _ _ | with_reducible refine Below.ex ?_ _ | with_reducible refine Below.al ?_ _ | with_reducible refine Below.setCell ?_ (by simp) _ | with_reducible refine Below.drew ?_)))) hcap2 _ (x.1, to, x.2.2) rfl (by simp [go_sem, ↓IntWalk.iteOmega]) (by simp [go_sem, ↓IntWalk.iteOmega]) (by simp [go_sem, ↓IntWalk.iteOmega]) ?_
                    intro w7 hw7
                    have aux : ∀ wX, Below wr.heap.size wr wX → w7 = wX.setCells b (3 * k) (srow [(x.1, to, x.2.2)]) → TAt w7 lab { M with sv := sv5 } { T5 with held := T5.held - (i - k), sp := upd T5.sp j (l.set k (x.1, to, x.2.2)) } ∧ KeptL lab tabL w w7 := by
                      intro wX hB hw
                      rw [hw]
                      obtain ⟨h1, h2⟩ := (HT6.out.below hB).setE (r := j) (k := k) hr5 HV.out (by omega) (x.1, to, x.2.2) ⟨hxb.1, by show to ≤ _; omega, hxb.2.2⟩
                      refine ⟨?_, HK6.out.trans ((KeptL.of_below hB).trans (h2.mono (fun y hy => by unfold tabL; omega)))⟩
                      simp only [upd_at, upd_upd] at h1
                      exact h1
                    have aux2 := fun hB => aux _ hB hw7
                    obtain ⟨hE1, hE2⟩ := aux2 (by (repeat (first | with_reducible exact Below.rf _ | with_reducible exact World.below_ext _ _ | with_reducible refine Below.ex ?_ _ | with_reducible refine Below.al ?_ _ | with_reducible refine Below.setCell ?_ (by simp) _ | with_reducible refine Below.drew ?_)))
                    have HE1 := hid hE1
                    have HE2 := hid hE2
                    clear aux aux2 hE1 hE2 hw7
                    go_wp2
                    go_roundw
                    case rel =>
                      refine ⟨i + 1, k + 1, l.set k (x.1, to, x.2.2), by go_num, rfl, by omega, by omega, by rw [List.length_set]; exact HLN.out, ?_, ?_, ?_, HE2.out⟩
                      · rw [HSN.out, List.take_add_one, List.getElem?_set_self hkl, take_set']
                        rfl
                      · rw [List.drop_set_of_lt (by omega)]; exact HD1.out
                      · rw [show i + 1 - (k + 1) = i - k by omega]; exact HE1.out
                    case measure => simp [intOf]; omega
                  · rw [hmy] at HSN
                    clear hmy
                    go_wp2_with (at_builtin; refine hold ?_)
                    unfold Hid
                    refine wp_over rfl _ _ rfl b k cap l rfl (HP4.out.below (by (repeat (first | with_reducible exact Below.rf _ | with_reducible exact World.below_ext _ _ | with_reducible refine Below.ex ?_ _ | with_reducible refine Below.al ?_ _ | with_reducible refine Below.setCell ?_ (by simp) _ | with_reducible refine Below.drew ?_)))) hcap2 _ (x.1, x.2.1, x.2.2) rfl (by simp [go_sem, ↓IntWalk.iteOmega]) (by simp [go_sem, ↓IntWalk.iteOmega]) (by simp [go_sem, ↓IntWalk.iteOmega]) ?_
                    intro w7 hw7
                    have aux : ∀ wX, Below wr.heap.size wr wX → w7 = wX.setCells b (3 * k) (srow [(x.1, x.2.1, x.2.2)]) → TAt w7 lab { M with sv := sv5 } { T5 with held := T5.held - (i - k), sp := upd T5.sp j (l.set k (x.1, x.2.1, x.2.2)) } ∧ KeptL lab tabL w w7 := by
                      intro wX hB hw
                      rw [hw]
                      obtain ⟨h1, h2⟩ := (HT6.out.below hB).setE (r := j) (k := k) hr5 HV.out (by omega) (x.1, x.2.1, x.2.2) ⟨hxb.1, by show x.2.1 ≤ _; omega, hxb.2.2⟩
                      refine ⟨?_, HK6.out.trans ((KeptL.of_below hB).trans (h2.mono (fun y hy => by unfold tabL; omega)))⟩
                      simp only [upd_at, upd_upd] at h1
                      exact h1
                    have aux2 := fun hB => aux _ hB hw7
                    obtain ⟨hE1, hE2⟩ := aux2 (by (repeat (first | with_reducible exact Below.rf _ | with_reducible exact World.below_ext _ _ | with_reducible refine Below.ex ?_ _ | with_reducible refine Below.al ?_ _ | with_reducible refine Below.setCell ?_ (by simp) _ | with_reducible refine Below.drew ?_)))
                    have HE1 := hid hE1
                    have HE2 := hid hE2
                    clear aux aux2 hE1 hE2 hw7
                    go_wp2
                    go_roundw
                    case rel =>
                      refine ⟨i + 1, k + 1, l.set k (x.1, x.2.1, x.2.2), by go_num, rfl, by omega, by omega, by rw [List.length_set]; exact HLN.out, ?_, ?_, ?_, HE2.out⟩
                      · rw [HSN.out, List.take_add_one, List.getElem?_set_self hkl, take_set']
                        rfl
                      · rw [List.drop_set_of_lt (by omega)]; exact HD1.out
                      · rw [show i + 1 - (k + 1) = i - k by omega]; exact HE1.out
                    case measure => simp [intOf]; omega
              · obtain rfl : i = n := by omega
                clear hT6 hK6 hln htk hdp hS
                go_wp2
                go_roundw
                case rel =>
                  have hkeep : l.take k = keepSp to (T5.sp j) := by have h1 := HTK.out; rwa [show (T5.sp j).take i = T5.sp j from List.take_of_length_le (by rw [HNN.out]; exact Nat.le_refl _)] at h1
                  have hkn : (keepSp to (T5.sp j)).length = k := by rw [← hkeep, List.length_take, HLN.out]; omega
                  have hsp := HS.out.take HLN.out k (by omega)
                  rw [hkeep] at hsp
                  have hfin := HT6.out.setS (lab' := lab) (r := j) (l := keepSp to (T5.sp j)) hr5 (KeptL.refl _ _ _) (fun _ _ => rfl) hsp (fun y hy => by
                    obtain ⟨u, hu, h1, rfl⟩ := keepSp_mem hy
                    have := HT5.out.bd.sp j u hr5 hu
                    exact ⟨this.1, by show max u.2.1 to ≤ _; omega, this.2.2⟩) (by rw [hkn]; omega)
                  have heq : TabS.keep1 to j T5 = { T5 with held := T5.held - (i - k), sp := upd (upd T5.sp j l) j (keepSp to (T5.sp j)) } := by
                    unfold TabS.keep1
                    rw [hkn, HNN.out]
                    congr 1
                    funext r; unfold upd; split <;> simp [*]
                  refine ⟨j + 1, upd sv5 j (.slice ao k cap), TabS.keep1 to j T5, by go_num, by omega, ?_, HC5.out.cut hr5 _ _ (by rw [hkn, HNN.out]; omega), HN5.out, HKN.out, ?_⟩
                  · rw [heq]; exact hfin
                  · exact HK6.out.set (b := M.s) (by rw [HH.out.ls]; unfold tabL; omega) _
                case measure => simp [intOf]; omega
          · obtain rfl : j = T.nr := by omega
            rw [Nat.sub_self] at hkn
            simp only [TabS.keepN] at hkn
            have HKN := hid hkn
            clear hT5 hC5 hK5 hn5 hkn
            go_wp2
            go_ret
            rw [← HKN.out]
            exact ⟨_, rfl, HT5.out, HC5.out, rfl, HK5.out⟩
  · have hm : min to (T.base + 256) = T.base + 256 := by omega
    rw [hm] at HD
    clear hm
    go_enter Tryz.func26, Tryz.ntmps26
    go_wp2
    go_loopw [5] (fun x wr => ∃ (k : Nat) (T1 : TabS), x = .int .i64 (k) ∧ T.base ≤ k ∧ k ≤ (T.base + 256) ∧ TAt wr lab M T1 ∧ Con T1 ∧ T1.base = T.base ∧ T1.nr = T.nr ∧ TabS.dropA k ((T.base + 256) - k) T1 = d ∧ KeptL lab tabL w wr) (fun x _ => (T.base + 256) - (intOf x).toNat)
    case atStart => exact ⟨T.base, T, rfl, Nat.le_refl _, by omega, HH.out, HC.out, rfl, rfl, HD.out, KeptL.refl _ _ _⟩
    case round =>
      clear c3
      obtain ⟨k, T1, rfl, hk1, hk2, hT, hC, hb1, hn1, hdd, hK⟩ := hrel
      have HT := hid hT
      have HC1 := hid hC
      have HK := hid hK
      have HB1 := hid hb1
      have HN1 := hid hn1
      have HDD := hid hdd
      have EN := hid (end_any M T1 lab wr hT)
      rw [hb1] at EN
      clear hT hC hK hb1 hn1 hdd
      by_cases hlt : k < (T.base + 256)
      · have bk : decide ((k : Int) < (T.base + 256)) = true := by simp; omega
        go_wp2_with (go_at_call 66; refine EN.out.mono ?_; rintro e w2 ⟨rfl, hw'⟩; obtain rfl := hw')
        go_loopw [6] (fun x w3 => ∃ (j : Nat) (T2 : TabS), x = .int .i64 (j) ∧ j ≤ T.nr ∧ TAt w3 lab M T2 ∧ Con T2 ∧ T2.base = T.base ∧ T2.nr = T.nr ∧ TabS.dropR k j (T.nr - j) T2 = TabS.dropR k 0 T.nr T1 ∧ KeptL lab tabL w w3) (fun x _ => T.nr - (intOf x).toNat)
        case atStart => exact ⟨0, T1, rfl, by omega, HT.out, HC1.out, HB1.out, HN1.out, rfl, HK.out⟩
        case round =>
          obtain ⟨j, T2, rfl, hj, hT2, hC2, hb2, hn2, hdr, hK2⟩ := hrel
          have HT2 := hid hT2
          have HC2 := hid hC2
          have HK2 := hid hK2
          have HB2 := hid hb2
          have HN2 := hid hn2
          have c1 := hT2.c1
          have l1 := hT2.bt.lt
          rw [hn2] at c1
          by_cases hjl : j < T.nr
          · have hmod : k % 256 < 256 := Nat.mod_lt _ (by omega)
            have DR := hid (drop_any M T2 lab j k _ _ hT2 (by rw [hn2]; exact hjl) (by omega) rfl (fun hp => hC2.pos (by rw [hn2]; exact hjl) hmod hp))
            rw [show T.nr - j = T.nr - (j + 1) + 1 by omega] at hdr
            simp only [TabS.dropR] at hdr
            have HDR := hid hdr
            clear hT2 hC2 hK2 hb2 hn2 hdr
            go_wp2_with (go_at_call 67; refine hold ?_)
            unfold Hid
            refine DR.out.mono ?_
            rintro e w4 ⟨rfl, hT4, hK4⟩
            have HT4 := hid hT4
            have HK4 := hid hK4
            have HC4 := hid (HC2.out.drop (by rw [HN2.out]; exact hjl) hmod HT2.out.bd)
            clear hT4 hK4 DR
            go_wp2
            go_roundw
            case rel => exact ⟨j + 1, _, by go_num, by omega, HT4.out, HC4.out, by rw [TabS.drop_base]; exact HB2.out, by rw [TabS.drop_nr]; exact HN2.out, HDR.out, HK2.out.trans (HK4.out.mono (fun x hx => by unfold tabL; omega))⟩
            case measure => simp [intOf]; omega
          · rw [show T.nr - j = 0 by omega] at hdr
            simp only [TabS.dropR] at hdr
            have HDR := hid hdr
            clear hT2 hC2 hK2 hb2 hn2 hdr
            go_wp2
            go_roundw
            case rel =>
              refine ⟨k + 1, T2, by go_num, by omega, by omega, HT2.out, HC2.out, HB2.out, HN2.out, ?_, HK2.out⟩
              have := HDD.out
              rw [show (T.base + 256) - k = (T.base + 256) - (k + 1) + 1 by omega] at this
              simp only [TabS.dropA] at this
              rw [HN1.out, ← HDR.out] at this
              exact this
            case measure => simp [intOf]; omega
      · have hke : k = (T.base + 256) := by omega
        have HKE := hid hke
        have bk : decide ((k : Int) < (T.base + 256)) = false := by simp; omega
        have hd2 := HDD.out
        rw [show (T.base + 256) - k = 0 by omega] at hd2
        simp only [TabS.dropA] at hd2
        have HD2 := hid hd2
        have f3 := HT.out.bt.fz 3 (by omega)
        have c7 := HT.out.c7
        have c3 := HT.out.c3
        have l1 := HT.out.bt.lt
        have HT4 := hid (HT.out.setB to (by omega))
        have HC4 := hid (HC1.out.rebase to)
        have HK4 := hid (HK.out.set (b := M.t) (i := 3) (by rw [HT.out.lt]; unfold tabL; omega) (.int .i64 (to)))
        rw [HN1.out] at c7
        have hGd := HG.out
        rw [← HD2.out] at hGd
        have HGD := hid hGd
        clear hke hd2 hGd
        go_wp2_with (go_at_call 66; refine EN.out.mono ?_; rintro e w2 ⟨rfl, hw'⟩; obtain rfl := hw')
        go_loopw [55] (fun x w5 => ∃ (j : Nat) (sv5 : Nat → Value) (T5 : TabS), x = .int .i64 (j) ∧ j ≤ T.nr ∧ TAt w5 lab { M with sv := sv5 } T5 ∧ Con T5 ∧ T5.nr = T.nr ∧ TabS.keepN to j (T.nr - j) T5 = G ∧ KeptL lab tabL w w5) (fun x _ => T.nr - (intOf x).toNat)
        case atStart => exact ⟨0, M.sv, _, rfl, by omega, HT4.out, HC4.out, HN1.out, HGD.out, HK4.out⟩
        case round =>
          clear c7 c3 f3 l1 bk
          obtain ⟨j, sv5, T5, rfl, hj, hT5, hC5, hn5, hkn, hK5⟩ := hrel
          have HT5 := hid hT5
          have HC5 := hid hC5
          have HK5 := hid hK5
          have HN5 := hid hn5
          have l1 : M.t < wr.heap.size := hT5.bt.lt
          have l2 : M.s < wr.heap.size := hT5.bs.lt
          by_cases hjl : j < T.nr
          · have hr5 : j < T5.nr := by rw [hn5]; exact hjl
            have cs : wr.cell? ⟨M.s, j, none⟩ = some (sv5 j) := hT5.bs.is j hr5
            have SP := hid (hT5.bsr j hr5)
            obtain ⟨ao, cap, hv⟩ := SP.out.val
            obtain ⟨n, hn⟩ : ∃ n, (T5.sp j).length = n := ⟨_, rfl⟩
            have hspl := hC5.sp_le hr5
            have hcap := hT5.bd.cap
            have hheld := hT5.bd.held
            rw [hn] at hv hspl
            have hv' : sv5 j = .slice ao n cap := hv
            rw [hv'] at cs
            have hsl : ∀ w, (Instr.sliceAt 105 (.slice ao n cap) none (some (.int .i64 (0))) none).run Tryz.prog w = .ok (.slice ao 0 cap) w := by
              obtain ⟨ao', cap', h1, h2, h3⟩ := SP.out.ex
              rw [hn] at h1
              have h1' := hv'.symm.trans h1
              simp only [Value.slice.injEq, true_and] at h1'
              obtain ⟨rfl, rfl⟩ := h1'
              rcases h3 with ⟨rfl, rfl⟩ | ⟨b, rfl, hl, hp⟩
              · rw [hn] at h2
                obtain rfl : n = 0 := by omega
                exact slice_nil0
              · exact slice_sp b 0 n cap (by omega) (by omega)
            have HNN := hid hn
            have HV := hid hv'
            rw [show T.nr - j = T.nr - (j + 1) + 1 by omega] at hkn
            simp only [TabS.keepN] at hkn
            have HKN := hid hkn
            clear hT5 hC5 hK5 hn5 hv hv' hn hkn
            go_wp2
            go_loopw [9, 64] (fun y x w6 => ∃ (i k : Nat) (l : List (Nat × Nat × Nat)), x = .int .i64 (i) ∧ y = .slice ao k cap ∧ i ≤ n ∧ k ≤ i ∧ l.length = n ∧ l.take k = keepSp to ((T5.sp j).take i) ∧ l.drop i = (T5.sp j).drop i ∧ TAt w6 lab { M with sv := sv5 } { T5 with held := T5.held - (i - k), sp := upd T5.sp j l } ∧ KeptL lab tabL w w6) (fun _ x _ => n - (intOf x).toNat)
            case atStart =>
              refine ⟨0, 0, T5.sp j, rfl, rfl, by omega, by omega, HNN.out, by simp [keepSp], rfl, ?_, HK5.out⟩
              have : upd T5.sp j (T5.sp j) = T5.sp := by funext i; unfold upd; split <;> simp [*]
              rw [this]; exact HT5.out
            case round =>
              clear cs l1 l2
              obtain ⟨i, k, l, rfl, rfl, hi, hki, hln, htk, hdp, hT6, hK6⟩ := hrel
              have HT6 := hid hT6
              have HK6 := hid hK6
              have HLN := hid hln
              have HTK := hid htk
              have HDP := hid hdp
              have c4 : wr.cell? ⟨M.t, 4, none⟩ = some (.int .i64 ((T5.held - (i - k) : Nat))) := hT6.c4
              have c7 : wr.cell? ⟨M.t, 7, none⟩ = some (.slice (some ⟨M.s, 0, none⟩) T5.nr T5.nr) := hT6.c7
              have f4 : wr.frozen? ⟨M.t, 4, none⟩ = false := hT6.bt.fz 4 (by omega)
              have fs : wr.frozen? ⟨M.s, j, none⟩ = false := hT6.bs.fz j hr5
              have cs : wr.cell? ⟨M.s, j, none⟩ = some (.slice ao n cap) := (hT6.bs.is j hr5).trans (congrArg some HV.out)
              have l1 : M.t < wr.heap.size := hT6.bt.lt
              have l2 : M.s < wr.heap.size := hT6.bs.lt
              have n1 : M.s ≠ M.t := fun e => by have h1 : lab M.s = 9 := hT6.ls; have h2 : lab M.t = 6 := hT6.lt; rw [e, h2] at h1; omega
              have hS := hT6.bsr j hr5
              rw [show (TabM.sv { M with sv := sv5 }) j = .slice ao n cap from HV.out, show (TabS.sp { T5 with held := T5.held - (i - k), sp := upd T5.sp j l }) j = l from upd_at _ _ _] at hS
              have HS := hid hS
              by_cases hin : i < n
              · have hil : i < (T5.sp j).length := by rw [HNN.out]; omega
                have hx : (T5.sp j)[i]? = some (T5.sp j)[i] := List.getElem?_eq_getElem hil
                generalize (T5.sp j)[i] = x at *
                have hxl : l[i]? = some x := by
                  have h1 := congrArg (fun z => z[0]?) hdp
                  simp only [List.getElem?_drop, Nat.add_zero] at h1
                  rw [h1]; exact hx
                obtain ⟨b, cap', hv2, hlc, hbl, q1, q2, q3⟩ := hS.at i x hxl
                simp only [Value.slice.injEq] at hv2
                obtain ⟨rfl, -, rfl⟩ := hv2
                rw [show 3 * i = i * 3 by omega] at q1 q2 q3
                obtain ⟨hp1, hp2, hp3, hp4⟩ := hS.pad
                have HP4 := hid hp4
                have hblt := hp4.lt
                have nb : b ≠ M.t ∧ b ≠ M.s := ⟨fun e => by have h2 : lab M.t = 6 := hT6.lt; rw [e, h2] at hp3; omega, fun e => by have h2 : lab M.s = 9 := hT6.ls; rw [e, h2] at hp3; omega⟩
                have hxb := HT5.out.bd.sp j x hr5 (List.mem_of_getElem? hx)
                have hsn := keepSp_snoc to (T5.sp j) i x hx
                have hd1 : l.drop (i + 1) = (T5.sp j).drop (i + 1) := by
                  have h1 := congrArg (List.drop 1) hdp
                  simpa [List.drop_drop, Nat.add_comm] using h1
                have HD1 := hid hd1
                by_cases hun : x.2.2 ≤ to
                · rw [if_pos hun, ← htk] at hsn
                  have HSN := hid hsn.symm
                  have bu : decide (x.2.2 ≤ to) = true := by simp; omega
                  clear hT6 hK6 hln htk hdp hS hx hxl hsn hd1 hp1 hp3 hp4
                  go_wp2
                  go_roundw
                  case rel =>
                    refine ⟨i + 1, k, l, by go_num, rfl, by omega, by omega, HLN.out, HSN.out, HD1.out, ?_, ?_⟩
                    · have h1 := HT6.out.setH (T5.held - (i + 1 - k)) (by show T5.held - (i + 1 - k) ≤ T5.cap; omega)
                      rw [show ((T5.held - (i + 1 - k) : Nat) : Int) = ((T5.held - (i - k) : Nat) : Int) - 1 by omega] at h1
                      exact h1.below (by (repeat (first | with_reducible exact Below.rf _ | with_reducible exact World.below_ext _ _ | with_reducible refine Below.ex ?_ _ | with_reducible refine Below.al ?_ _ | with_reducible refine Below.setCell ?_ (by simp) _ | with_reducible refine Below.drew ?_)))
                    · exact (HK6.out.set (b := M.t) (by rw [HH.out.lt]; unfold tabL; omega) _).trans (KeptL.of_below (by (repeat (first | with_reducible exact Below.rf _ | with_reducible exact World.below_ext _ _ | with_reducible refine Below.ex ?_ _ | with_reducible refine Below.al ?_ _ | with_reducible refine Below.setCell ?_ (by simp) _ | with_reducible refine Below.drew ?_))))
                  case measure => simp [intOf]; omega
                · rw [if_neg hun, ← htk] at hsn
                  have HSN := hid hsn
                  have bu : decide (x.2.2 ≤ to) = false := by simp; omega
                  have hkl : k < l.length := by omega
                  have hcap2 : k < cap := by omega
                  clear hT6 hK6 hln htk hdp hS hx hxl hsn hd1 hp1 hp3 hp4
                  rcases (by omega : (x.2.1 < to ∧ max x.2.1 to = to) ∨ (¬ x.2.1 < to ∧ max x.2.1 to = x.2.1)) with ⟨hmx, hmy⟩ | ⟨hmx, hmy⟩
                  · rw [hmy] at HSN
                    clear hmy
                    go_wp2_with (at_builtin; refine hold ?_)
                    unfold Hid
                    refine wp_over rfl _ _ rfl b k cap l rfl (HP4.out.below (by (repeat (first | with_reducible exact Below.rf _ | with_reducible exact World.below_ext _ _ | with_reducible refine Below.ex ?_ _ | with_reducible refine Below.al ?_ _ | with_reducible refine Below.setCell ?_ (by simp) _ | with_reducible refine Below.drew ?_)))) hcap2 _ (x.1, to, x.2.2) rfl (by simp [go_sem, ↓IntWalk.iteOmega]) (by simp [go_sem, ↓IntWalk.iteOmega]) (by simp [go_sem, ↓IntWalk.iteOmega]) ?_
                    intro w7 hw7
                    have aux : ∀ wX, Below wr.heap.size wr wX → w7 = wX.setCells b (3 * k) (srow [(x.1, to, x.2.2)]) → TAt w7 lab { M with sv := sv5 } { T5 with held := T5.held - (i - k), sp := upd T5.sp j (l.set k (x.1, to, x.2.2)) } ∧ KeptL lab tabL w w7 := by
                      intro wX hB hw
                      rw [hw]
                      obtain ⟨h1, h2⟩ := (HT6.out.below hB).setE (r := j) (k := k) hr5 HV.out (by omega) (x.1, to, x.2.2) ⟨hxb.1, by show to ≤ _; omega, hxb.2.2⟩
                      refine ⟨?_, HK6.out.trans ((KeptL.of_below hB).trans (h2.mono (fun y hy => by unfold tabL; omega)))⟩
                      simp only [upd_at, upd_upd] at h1
                      exact h1
                    have aux2 := fun hB => aux _ hB hw7
                    obtain ⟨hE1, hE2⟩ := aux2 (by (repeat (first | with_reducible exact Below.rf _ | with_reducible exact World.below_ext _ _ | with_reducible refine Below.ex ?_ _ | with_reducible refine Below.al ?_ _ | with_reducible refine Below.setCell ?_ (by simp) _ | with_reducible refine Below.drew ?_)))
                    have HE1 := hid hE1
                    have HE2 := hid hE2
                    clear aux aux2 hE1 hE2 hw7
                    go_wp2
                    go_roundw
                    case rel =>
                      refine ⟨i + 1, k + 1, l.set k (x.1, to, x.2.2), by go_num, rfl, by omega, by omega, by rw [List.length_set]; exact HLN.out, ?_, ?_, ?_, HE2.out⟩
                      · rw [HSN.out, List.take_add_one, List.getElem?_set_self hkl, take_set']
                        rfl
                      · rw [List.drop_set_of_lt (by omega)]; exact HD1.out
                      · rw [show i + 1 - (k + 1) = i - k by omega]; exact HE1.out
                    case measure => simp [intOf]; omega
                  · rw [hmy] at HSN
                    clear hmy
                    go_wp2_with (at_builtin; refine hold ?_)
                    unfold Hid
                    refine wp_over rfl _ _ rfl b k cap l rfl (HP4.out.below (by (repeat (first | with_reducible exact Below.rf _ | with_reducible exact World.below_ext _ _ | with_reducible refine Below.ex ?_ _ | with_reducible refine Below.al ?_ _ | with_reducible refine Below.setCell ?_ (by simp) _ | with_reducible refine Below.drew ?_)))) hcap2 _ (x.1, x.2.1, x.2.2) rfl (by simp [go_sem, ↓IntWalk.iteOmega]) (by simp [go_sem, ↓IntWalk.iteOmega]) (by simp [go_sem, ↓IntWalk.iteOmega]) ?_
                    intro w7 hw7
                    have aux : ∀ wX, Below wr.heap.size wr wX → w7 = wX.setCells b (3 * k) (srow [(x.1, x.2.1, x.2.2)]) → TAt w7 lab { M with sv := sv5 } { T5 with held := T5.held - (i - k), sp := upd T5.sp j (l.set k (x.1, x.2.1, x.2.2)) } ∧ KeptL lab tabL w w7 := by
                      intro wX hB hw
                      rw [hw]
                      obtain ⟨h1, h2⟩ := (HT6.out.below hB).setE (r := j) (k := k) hr5 HV.out (by omega) (x.1, x.2.1, x.2.2) ⟨hxb.1, by show x.2.1 ≤ _; omega, hxb.2.2⟩
                      refine ⟨?_, HK6.out.trans ((KeptL.of_below hB).trans (h2.mono (fun y hy => by unfold tabL; omega)))⟩
                      simp only [upd_at, upd_upd] at h1
                      exact h1
                    have aux2 := fun hB => aux _ hB hw7
                    obtain ⟨hE1, hE2⟩ := aux2 (by (repeat (first | with_reducible exact Below.rf _ | with_reducible exact World.below_ext _ _ | with_reducible refine Below.ex ?_ _ | with_reducible refine Below.al ?_ _ | with_reducible refine Below.setCell ?_ (by simp) _ | with_reducible refine Below.drew ?_)))
                    have HE1 := hid hE1
                    have HE2 := hid hE2
                    clear aux aux2 hE1 hE2 hw7
                    go_wp2
                    go_roundw
                    case rel =>
                      refine ⟨i + 1, k + 1, l.set k (x.1, x.2.1, x.2.2), by go_num, rfl, by omega, by omega, by rw [List.length_set]; exact HLN.out, ?_, ?_, ?_, HE2.out⟩
                      · rw [HSN.out, List.take_add_one, List.getElem?_set_self hkl, take_set']
                        rfl
                      · rw [List.drop_set_of_lt (by omega)]; exact HD1.out
                      · rw [show i + 1 - (k + 1) = i - k by omega]; exact HE1.out
                    case measure => simp [intOf]; omega
              · obtain rfl : i = n := by omega
                clear hT6 hK6 hln htk hdp hS
                go_wp2
                go_roundw
                case rel =>
                  have hkeep : l.take k = keepSp to (T5.sp j) := by have h1 := HTK.out; rwa [show (T5.sp j).take i = T5.sp j from List.take_of_length_le (by rw [HNN.out]; exact Nat.le_refl _)] at h1
                  have hkn : (keepSp to (T5.sp j)).length = k := by rw [← hkeep, List.length_take, HLN.out]; omega
                  have hsp := HS.out.take HLN.out k (by omega)
                  rw [hkeep] at hsp
                  have hfin := HT6.out.setS (lab' := lab) (r := j) (l := keepSp to (T5.sp j)) hr5 (KeptL.refl _ _ _) (fun _ _ => rfl) hsp (fun y hy => by
                    obtain ⟨u, hu, h1, rfl⟩ := keepSp_mem hy
                    have := HT5.out.bd.sp j u hr5 hu
                    exact ⟨this.1, by show max u.2.1 to ≤ _; omega, this.2.2⟩) (by rw [hkn]; omega)
                  have heq : TabS.keep1 to j T5 = { T5 with held := T5.held - (i - k), sp := upd (upd T5.sp j l) j (keepSp to (T5.sp j)) } := by
                    unfold TabS.keep1
                    rw [hkn, HNN.out]
                    congr 1
                    funext r; unfold upd; split <;> simp [*]
                  refine ⟨j + 1, upd sv5 j (.slice ao k cap), TabS.keep1 to j T5, by go_num, by omega, ?_, HC5.out.cut hr5 _ _ (by rw [hkn, HNN.out]; omega), HN5.out, HKN.out, ?_⟩
                  · rw [heq]; exact hfin
                  · exact HK6.out.set (b := M.s) (by rw [HH.out.ls]; unfold tabL; omega) _
                case measure => simp [intOf]; omega
          · obtain rfl : j = T.nr := by omega
            rw [Nat.sub_self] at hkn
            simp only [TabS.keepN] at hkn
            have HKN := hid hkn
            clear hT5 hC5 hK5 hn5 hkn
            go_wp2
            go_ret
            rw [← HKN.out]
            exact ⟨_, rfl, HT5.out, HC5.out, rfl, HK5.out⟩
end Go.Proofs.Qxb6500717aGreat
