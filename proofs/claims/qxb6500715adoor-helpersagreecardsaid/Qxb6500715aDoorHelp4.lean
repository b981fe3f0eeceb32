/-
  placesAgree: the walk.
-/
import Derived.Test.Qxb6500715aDoorHelp3
namespace Go.Proofs.Qxb6500715aDoor
open Go.RowKit
set_option linter.unusedSimpArgs false
set_option linter.unusedVariables false

theorem own_val (F : FP) (c : Nat) : ∀ k, 0 ≤ ownr F.kd F.W F.px F.py k c → ∃ r, r < k ∧ ownr F.kd F.W F.px F.py k c = (r : Int) ∧ F.bay r = c := by
  intro k
  induction k with
  | zero => intro h; simp [ownr] at h
  | succ k ih =>
    intro h
    unfold ownr at h ⊢
    by_cases hc : cnt (fun t => drv (F.kd t)) (F.px k * F.W + F.py k) = c
    · rw [if_pos hc]; exact ⟨k, by omega, rfl, hc⟩
    · rw [if_neg hc] at h ⊢
      obtain ⟨r, h1, h2, h3⟩ := ih h
      exact ⟨r, by omega, h2, h3⟩

theorem aisle_rc {F : FP} (hp : Pln F) {al po : Nat} (ha : al < F.A) (hpo : po < F.S) : F.row (F.aisle al po) = 2 + po ∧ F.col (F.aisle al po) = 1 + al * F.P ∧ F.kd (F.pl (F.aisle al po)) = 4 ∧ F.aisle al po < F.N := by
  obtain ⟨⟨h1, h2⟩, h3, h4, h5⟩ := aisle_spec hp ha hpo
  have hW : 0 < F.W := by omega
  refine ⟨?_, ?_, by rw [h5]; exact h3, h4⟩
  · unfold FP.row; rw [h5, Nat.mul_comm, Nat.mul_add_div hW, Nat.div_eq_of_lt h2, Nat.add_zero]
  · unfold FP.col; rw [h5, Nat.mul_comm, Nat.mul_add_mod, Nat.mod_eq_of_lt h2]

/-- A slot's number, put together again. -/
theorem slot_parts {A S D q s : Nat} (hq : q = A * S * D) (hs : s < q) (hS : 1 ≤ S) (hD : 1 ≤ D) : s / D / S < A ∧ s / D % S < S ∧ s % D < D ∧ (s / D / S * S + s / D % S) * D + s % D = s := by
  refine ⟨?_, Nat.mod_lt _ (by omega), Nat.mod_lt _ (by omega), ?_⟩
  · rw [Nat.div_div_eq_div_mul]
    apply Nat.div_lt_of_lt_mul
    rw [Nat.mul_comm D S, Nat.mul_comm _ A, ← Nat.mul_assoc, ← hq]; exact hs
  · rw [Nat.mul_comm (s / D / S) S, Nat.div_add_mod, Nat.mul_comm, Nat.div_add_mod]

set_option maxRecDepth 20000 in
set_option maxHeartbeats 4000000 in
theorem placesAgree_any (F : FP) (sb cb tb db NN : Nat) (dist : Nat → Nat → Int) (dia : Int) (D : Array Value) (w : World) (h : Flo w F sb cb tb db NN dist dia D) :
    Calls Tryd.prog 45 #[.pointer (some ⟨F.fb, 0, none⟩)] w fun e w' => e = .returned (.bool true) ∧ ∃ z, w' = w.ext z := by
  have HH := hid h
  have hN := h.hN
  have hp := h.fl.pln
  have HP := hid hp
  have hn := hp.lay.hn
  have hA := hp.lay.hA
  have hS := hp.lay.hS
  have hDD := hp.lay.hD
  obtain ⟨q, hq⟩ : ∃ q, q = F.A * F.S * F.D := ⟨_, rfl⟩
  have hqb : q ≤ 192 := by
    have b1 : F.A * F.S ≤ 96 := Nat.mul_le_mul hA.2 hS.2
    rw [hq]; exact Nat.mul_le_mul b1 hDD.2
  have HQ := hid hq
  have BA := hid (bays_any F w h.fl hn)
  clear h hp hq
  go_enter Tryd.func45, Tryd.ntmps45
  go_wp2_with fail
  refine BA.out.mono ?_
  rintro e w1 ⟨g1, cp1, rfl, hg1, hrow1, hz1⟩
  have hB1 := ext_below' hz1
  have HB1 := hid hB1
  have HF1 := hid (HH.out.below hB1)
  have HROW1 := hid hrow1
  clear hz1 hB1 hrow1 BA
  go_wp2
  go_loopw [4] (fun x wr => ∃ c : Nat, c ≤ F.N ∧ x = .int .i64 (c) ∧ Below w1.heap.size w1 wr) (fun x _ => F.N - (intOf x).toNat)
  case atStart => exact ⟨0, Nat.zero_le _, rfl, Below.rf _⟩
  case round =>
    obtain ⟨c, hc, rfl, hB⟩ := hrel
    have HB := hid hB
    have hsz := hB.size
    have hF := (HF1.out.below hB).fl
    by_cases hlc : c < F.N
    · have bc : decide ((c : Int) < F.N) = true := by simp; omega
      obtain ⟨o, ho⟩ : ∃ o, ownr F.kd F.W F.px F.py F.n c = o := ⟨_, rfl⟩
      have hov := own_val F c F.n
      rw [ho] at hov
      by_cases h0 : 0 ≤ o
      · obtain ⟨r, hr, hor, hbr⟩ := hov h0
        have cr := cell_below hB hg1 (HROW1.out r c (by simp [FP.bays, hr, hbr]))
        have BO := hid (bayOwner_yes F c o wr hF hlc ho h0)
        have IB := hid (fun w' (h' : FlN w' F) => isBay_any F c true w' h' hlc (by rw [ho]; exact decide_eq_true h0))
        rw [hor] at BO
        clear hB hov ho hbr hor h0
        go_wp2_with (first | (go_at_call 13; refine (cells_any F _ hF).mono ?_; rintro e w5 ⟨rfl, rfl⟩) | (go_at_call 78; refine BO.out.mono ?_; rintro e w' ⟨rfl, y1, rfl⟩) | (go_at_call 39; refine (IB.out _ (hF.ex _)).mono ?_; rintro e w5 ⟨rfl, hw5⟩; obtain rfl := hw5))
        go_roundw
        case rel => exact ⟨c + 1, by omega, by go_num, HB.out.ex _⟩
        case measure => simp [intOf]; omega
      · have BO := hid (bayOwner_no F c o wr hF hlc ho (by omega))
        have IB := hid (fun w' (h' : FlN w' F) => isBay_any F c false w' h' hlc (by rw [ho]; exact decide_eq_false h0))
        clear hB hov ho h0
        go_wp2_with (first | (go_at_call 13; refine (cells_any F _ hF).mono ?_; rintro e w5 ⟨rfl, rfl⟩) | (go_at_call 78; refine BO.out.mono ?_; rintro e w' ⟨rfl, y1, rfl⟩) | (go_at_call 39; refine (IB.out _ (hF.ex _)).mono ?_; rintro e w5 ⟨rfl, hw5⟩; obtain rfl := hw5))
        go_roundw
        case rel => exact ⟨c + 1, by omega, by go_num, HB.out.ex _⟩
        case measure => simp [intOf]; omega
    · obtain rfl : c = F.N := by omega
      have HF2 := hid (HF1.out.below hB)
      clear hB
      go_wp2_with (first | (go_at_call 13; refine (cells_any F _ hF).mono ?_; rintro e w5 ⟨rfl, rfl⟩) | (go_at_call 33; refine (robotsF_any F _ hF).mono ?_; rintro e w2 ⟨rfl, rfl⟩))
      clear hF
      go_loopw [7] (fun x w3 => ∃ al : Nat, al ≤ F.A ∧ x = .int .i64 (al) ∧ Below w2.heap.size w2 w3) (fun x _ => F.A - (intOf x).toNat)
      case atStart => exact ⟨0, Nat.zero_le _, rfl, Below.rf _⟩
      case round =>
        obtain ⟨al, hal, rfl, hB3⟩ := hrel
        have HB3 := hid hB3
        have hs3 := hB3.size
        have hF3 := (HF2.out.below hB3).fl
        by_cases hla : al < F.A
        · have AC := hid (aisleCells_any F al wr hF3 hla)
          have ba : decide ((al : Int) < F.A) = true := by simp; omega
          clear hB3
          go_wp2_with (first | (go_at_call 79; refine (aisles_any F _ hF3).mono ?_; rintro e w5 ⟨rfl, rfl⟩) | (go_at_call 80; refine hold ?_))
          unfold Hid
          refine AC.out.mono ?_
          rintro e w4 ⟨g4, cp4, rfl, hg4, hrow4, hz4⟩
          have hB4 := ext_below' hz4
          have hF4 := hF3.below hB4
          have HB4 := hid hB4
          have HROW4 := hid hrow4
          clear hz4 hB4 hrow4 AC
          go_wp2_with (go_at_call 81; refine (aisleSlots_any F _ hF4).mono ?_; rintro e w4 ⟨rfl, rfl⟩)
          go_loopw [77] (fun x w6 => ∃ t : Nat, t ≤ F.S ∧ x = .int .i64 (t) ∧ Below w4.heap.size w4 w6) (fun x _ => F.S - (intOf x).toNat)
          case atStart => exact ⟨0, Nat.zero_le _, rfl, Below.rf _⟩
          case round =>
            obtain ⟨t, ht, rfl, hB6⟩ := hrel
            have HB6 := hid hB6
            have hF6 := hF4.below hB6
            by_cases hlt : t < F.S
            · obtain ⟨r1, r2, r3, r4⟩ := aisle_rc HP.out hla hlt
              have ct := cell_below hB6 hg4 (HROW4.out t (F.aisle al t) (by simp [FP.acs, hlt]))
              have AO := hid (aisleOf_yes F (F.aisle al t) al (2 + t) _ hF6 r4 r3 hla r2 r1)
              generalize F.aisle al t = cc at *
              have bt : decide ((t : Int) < F.S) = true := by simp; omega
              have b1 : (((2 + t : Nat) : Int) - 2 == (t : Int)) = true := by simp; omega
              obtain ⟨tt, htt⟩ : ∃ x : Int, ((2 + t : Nat) : Int) - 2 = x := ⟨_, rfl⟩
              rw [htt] at AO b1
              have htt2 : (t : Int) ≤ tt ∧ tt ≤ t := by omega
              clear hB6 r1 r2 r3 htt
              go_wp2_with (go_at_call 60; refine AO.out.mono ?_; rintro e w' ⟨rfl, y1, rfl⟩)
              go_roundw
              case rel => exact ⟨t + 1, by omega, by go_num, HB6.out.ex _⟩
              case measure => simp [intOf]; omega
            · clear hB6
              go_wp2
              go_roundw
              case rel => exact ⟨al + 1, by omega, by go_num, HB3.out.trans (Below.mono (HB4.out.trans (Below.mono HB6.out HB4.out.size)) hs3)⟩
              case measure => simp [intOf]; omega
        · obtain rfl : al = F.A := by omega
          have HF3 := hid (HF2.out.below hB3)
          clear hB3
          go_wp2_with (go_at_call 79; refine (aisles_any F _ hF3).mono ?_; rintro e w3 ⟨rfl, rfl⟩)
          clear hF3
          go_loopw [14] (fun x w6 => ∃ s : Nat, s ≤ q ∧ x = .int .i64 (s) ∧ Below w3.heap.size w3 w6) (fun x _ => q - (intOf x).toNat)
          case atStart => exact ⟨0, Nat.zero_le _, rfl, Below.rf _⟩
          case round =>
            obtain ⟨s, hs, rfl, hB6⟩ := hrel
            have HB6 := hid hB6
            have hF6 := (HF3.out.below hB6).fl
            by_cases hls : s < q
            · obtain ⟨p1, p2, p3, p4⟩ := slot_parts HQ.out hls hS.1 hDD.1
              obtain ⟨kw, kr⟩ := rack_kind HP.out p1 p2 p3
              obtain ⟨-, -, -, hcN⟩ := aisle_rc HP.out p1 p2
              have hkA : F.kAt (2 + ((s / F.D % F.S : Nat) : Int)) ((s / F.D / F.S * F.P + 2 * (s % F.D) : Nat) : Int) = 3 := by
                have := kAt_nat F (r := 2 + s / F.D % F.S) (q := s / F.D / F.S * F.P + 2 * (s % F.D)) (by omega) kw
                rw [kr] at this
                exact this
              have KK := hid (fun w' (h' : FlN w' F) => kindAt_is F _ _ 3 w' h' hkA)
              have SC := hid (fun w' (h' : FlN w' F) => slotCell_yes F q s w' h' HQ.out hls hqb)
              have SP := hid (fun w' (h' : FlN w' F) => slotPlace_yes F q s _ _ _ w' h' HQ.out hls hqb rfl rfl rfl)
              have SA := hid (fun w' (h' : FlN w' F) => slotAt_any F _ _ _ s _ _ w' h' p1 p2 p3 rfl rfl p4 (by omega))
              have SR := hid (fun w' (h' : FlN w' F) => slotRack_yes F q s _ _ _ _ _ w' h' HQ.out hls hqb rfl rfl rfl p1 p2 (by omega) rfl rfl)
              have SD := hid (fun (t : Nat) (ht : t < q) (dd : Nat) (hd : F.aisle (t / F.D / F.S) (t / F.D % F.S) = dd) (hdN : dd < F.N) w' (h' : FlN w' F) => slotDist_yes F q s t w' h' HQ.out hls ht hqb _ dd rfl hd hcN hdN)
              obtain ⟨c, hc⟩ : ∃ c, F.aisle (s / F.D / F.S) (s / F.D % F.S) = c := ⟨_, rfl⟩
              rw [hc] at SC SD hcN
              generalize s / F.D / F.S * F.P + 2 * (s % F.D) = qc at *
              generalize s / F.D / F.S = al at *
              generalize s / F.D % F.S = po at *
              generalize s % F.D = si at *
              have bs : decide ((s : Int) < q) = true := by simp; omega
              clear hB6 p4 kw kr hkA hc
              go_wp2_with (first | (go_at_call 37; refine (slots_is F q _ hF6 HQ.out).mono ?_; rintro e w' ⟨rfl, y1, rfl⟩) | (go_at_call 66; refine (SP.out _ (hF6.ex _)).mono ?_; rintro e w' ⟨rfl, y2, rfl⟩) | (go_at_call 82; refine (SA.out _ (hF6.below (by (repeat (first | with_reducible exact Below.rf _ | with_reducible exact World.below_ext _ _ | with_reducible refine Below.ex ?_ _ | with_reducible refine Below.al ?_ _ | with_reducible refine Below.setCell ?_ (by simp) _ | with_reducible refine Below.drew ?_))))).mono ?_; rintro e w' ⟨rfl, y3, rfl⟩) | (go_at_call 38; refine (SC.out _ (hF6.below (by (repeat (first | with_reducible exact Below.rf _ | with_reducible exact World.below_ext _ _ | with_reducible refine Below.ex ?_ _ | with_reducible refine Below.al ?_ _ | with_reducible refine Below.setCell ?_ (by simp) _ | with_reducible refine Below.drew ?_))))).mono ?_; rintro e w' ⟨rfl, y4, rfl⟩) | (go_at_call 83; refine (SR.out _ (hF6.below (by (repeat (first | with_reducible exact Below.rf _ | with_reducible exact World.below_ext _ _ | with_reducible refine Below.ex ?_ _ | with_reducible refine Below.al ?_ _ | with_reducible refine Below.setCell ?_ (by simp) _ | with_reducible refine Below.drew ?_))))).mono ?_; rintro e w' ⟨rfl, y5, rfl⟩) | (go_at_call 84; refine (KK.out _ (hF6.below (by (repeat (first | with_reducible exact Below.rf _ | with_reducible exact World.below_ext _ _ | with_reducible refine Below.ex ?_ _ | with_reducible refine Below.al ?_ _ | with_reducible refine Below.setCell ?_ (by simp) _ | with_reducible refine Below.drew ?_))))).mono ?_; rintro e w7 ⟨rfl, hz7⟩))
              have hB7 : Below wr.heap.size wr w7 := by
                obtain ⟨z7, hz⟩ := hz7
                rw [hz]
                (repeat (first | with_reducible exact Below.rf _ | with_reducible exact World.below_ext _ _ | with_reducible refine Below.ex ?_ _ | with_reducible refine Below.al ?_ _ | with_reducible refine Below.setCell ?_ (by simp) _ | with_reducible refine Below.drew ?_))
              have HB7 := hid hB7
              have hF7 := hF6.below hB7
              clear hz7 hB7 hF6
              go_loopw [23] (fun x w8 => ∃ t : Nat, t ≤ q ∧ x = .int .i64 (t) ∧ Below w7.heap.size w7 w8) (fun x _ => q - (intOf x).toNat)
              case atStart => exact ⟨0, Nat.zero_le _, rfl, Below.rf _⟩
              case round =>
                obtain ⟨t, ht, rfl, hB8⟩ := hrel
                have HB8 := hid hB8
                have hF8 := hF7.below hB8
                by_cases hlt : t < q
                · obtain ⟨t1, t2, t3, t4⟩ := slot_parts HQ.out hlt hS.1 hDD.1
                  obtain ⟨-, -, -, hdN⟩ := aisle_rc HP.out t1 t2
                  have SC2 := hid (fun w' (h' : FlN w' F) => slotCell_yes F q t w' h' HQ.out hlt hqb)
                  obtain ⟨dc, hdc⟩ : ∃ c, F.aisle (t / F.D / F.S) (t / F.D % F.S) = c := ⟨_, rfl⟩
                  have SD2 := hid (SD.out t hlt dc hdc (by rw [← hdc]; exact hdN))
                  rw [hdc] at SC2 hdN
                  have DS := hid (fun w' (h' : FlN w' F) => dist_any F c dc w' h' hcN hdN)
                  generalize F.dst c dc = dd at *
                  have bt : decide ((t : Int) < q) = true := by simp; omega
                  clear hB8 t1 t2 t3 t4 hdc
                  go_wp2_with (first | (go_at_call 37; refine (slots_is F q _ hF8 HQ.out).mono ?_; rintro e w' ⟨rfl, y6, rfl⟩) | (go_at_call 38; refine (SC2.out _ (hF8.ex _)).mono ?_; rintro e w' ⟨rfl, y7, rfl⟩) | (go_at_call 85; refine (SD2.out _ (hF8.ex _)).mono ?_; rintro e w' ⟨rfl, y8, rfl⟩) | (go_at_call 20; refine (DS.out _ (hF8.ex _)).mono ?_; rintro e w' ⟨rfl, y9, rfl⟩))
                  go_roundw
                  case rel => exact ⟨t + 1, by omega, by go_num, HB8.out.ex _⟩
                  case measure => simp [intOf]; omega
                · clear hB8
                  go_wp2_with (go_at_call 37; refine (slots_is F q _ hF8 HQ.out).mono ?_; rintro e w' ⟨rfl, y6, rfl⟩)
                  go_roundw
                  case rel => exact ⟨s + 1, by omega, by go_num, HB6.out.trans (Below.mono (HB7.out.trans (Below.mono (HB8.out.ex _) HB7.out.size)) HB6.out.size)⟩
                  case measure => simp [intOf]; omega
            · clear hB6
              go_wp2_with (go_at_call 37; refine (slots_is F q _ hF6 HQ.out).mono ?_; rintro e w' ⟨rfl, y1, rfl⟩)
              go_ret
              refine ⟨rfl, ?_⟩
              have b1 := HB3.out.trans (Below.mono (HB6.out.ex y1) HB3.out.size)
              have b2 := HB.out.trans (Below.mono b1 HB.out.size)
              exact (HB1.out.trans (Below.mono b2 HB1.out.size)).is_ext
end Go.Proofs.Qxb6500715aDoor
