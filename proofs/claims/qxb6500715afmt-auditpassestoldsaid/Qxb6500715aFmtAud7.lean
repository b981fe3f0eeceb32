/-
  auditSlots: the walk.
-/
import Derived.Test.Qxb6500715aFmtAud4
import Derived.Test.Qxb6500715aFmtCs
import Derived.Test.Qxb6500715aFmtLbl
namespace Go.Proofs.Qxb6500715aFmt
open Go.RowKit
set_option linter.unusedSimpArgs false
set_option linter.unusedVariables false
theorem validSlot_no (F : FP) (q : Nat) (w : World) (h : FlN w F) (hq : q = F.A * F.S * F.D) (hqb : q ≤ 192) : Calls Tryf.prog 33 #[.pointer (some ⟨F.fb, 0, none⟩), .int .i64 (q)] w fun e w' => e = .returned (.bool false) ∧ ∃ z, w' = w.ext z := by
  have HH := hid h
  have HQ := hid hq
  have d0 : decide ((0 : Int) ≤ (q : Int)) = true := by simp
  have d1 : decide ((q : Int) < (q : Int)) = false := by simp
  clear h hq
  go_enter Tryf.func33, Tryf.ntmps33
  go_wp2_with (go_at_call 56; refine (slots_is F q _ HH.out HQ.out).mono ?_; rintro e w' ⟨rfl, z, rfl⟩)
  go_ret
  exact ⟨by simp, ⟨_, rfl⟩⟩
/-- What is known of a slot. -/
theorem slot_facts {F : FP} (hp : Pln F) {q s : Nat} (hq : q = F.A * F.S * F.D) (hs : s < q) : ∃ al po si m1 m2 mm qc c : Nat, si = s % F.D ∧ al = s / F.D / F.S ∧ po = s / F.D % F.S ∧ al < F.A ∧ po < F.S ∧ si < F.D ∧ si ≤ 1 ∧ al * F.S = m1 ∧ (m1 + po) * F.D = m2 ∧ m2 + si = s ∧
    F.aisle al po = c ∧ c < F.N ∧ F.kd (F.pl c) = 4 ∧ F.col c = 1 + al * F.P ∧ F.row c = 2 + po ∧ al * F.P = mm ∧ mm + 2 * si = qc ∧ F.kAt (2 + (po : Int)) (qc : Int) = 3 := by
  have hS := hp.lay.hS
  have hD := hp.lay.hD
  have hpo : s / F.D % F.S < F.S := Nat.mod_lt _ (by omega)
  have hsi : s % F.D < F.D := Nat.mod_lt _ (by omega)
  have hal : s / F.D / F.S < F.A := by
    rw [Nat.div_div_eq_div_mul]
    apply Nat.div_lt_of_lt_mul
    rw [Nat.mul_comm F.D F.S, Nat.mul_comm _ F.A, ← Nat.mul_assoc, ← hq]; exact hs
  have e1 : s / F.D / F.S * F.S + s / F.D % F.S = s / F.D := by rw [Nat.mul_comm]; exact Nat.div_add_mod _ _
  have e2 : s / F.D * F.D + s % F.D = s := by rw [Nat.mul_comm]; exact Nat.div_add_mod _ _
  obtain ⟨⟨g1, g2⟩, g3, g4, g5⟩ := aisle_spec hp hal hpo
  obtain ⟨k1, k2⟩ := rack_kind hp hal hpo hsi
  have hW : 0 < F.W := by omega
  refine ⟨_, _, _, _, _, _, _, _, rfl, rfl, rfl, hal, hpo, hsi, by omega, rfl, rfl, by rw [e1]; exact e2, rfl, g4, by rw [g5]; exact g3, ?_, ?_, rfl, rfl, ?_⟩
  · unfold FP.col; rw [g5, Nat.mul_comm, Nat.mul_add_mod, Nat.mod_eq_of_lt g2]
  · unfold FP.row; rw [g5, Nat.mul_comm, Nat.mul_add_div hW, Nat.div_eq_of_lt g2]; rfl
  · have := kAt_nat F (r := 2 + s / F.D % F.S) (q := s / F.D / F.S * F.P + 2 * (s % F.D)) g1 k1
    rw [k2] at this
    exact this
set_option maxRecDepth 20000 in
set_option maxHeartbeats 4000000 in
theorem audSlots (F : FP) (w : World) (h : FlN w F) :
    Calls Tryf.prog 14 #[.pointer (some ⟨F.fb, 0, none⟩)] w fun e w' => e = .returned .nilIface ∧ ∃ z, w' = w.ext z := by
  have H := hid h
  have hp := hid h.pln
  have hA := h.lay.hA
  have hS := h.lay.hS
  have hD := h.lay.hD
  have hP := h.lay.hP
  have hWb := h.hWb
  obtain ⟨q, hq⟩ : ∃ q, q = F.A * F.S * F.D := ⟨_, rfl⟩
  have hqb : q ≤ 192 := by rw [hq]; exact Nat.mul_le_mul (Nat.mul_le_mul hA.2 hS.2) hD.2
  have HQ := hid hq
  clear h hq
  go_enter Tryf.func14, Tryf.ntmps14
  go_wp2
  go_loopw [3] (fun v wr => ∃ s : Nat, v = .int .i64 (s) ∧ s ≤ q ∧ Below w.heap.size w wr) (fun v _ => q - (intOf v).toNat)
  case atStart => exact ⟨0, rfl, Nat.zero_le _, Below.rf _⟩
  case round =>
    obtain ⟨s, rfl, hs, hB⟩ := hrel
    have HB := hid hB
    have HF := hid (H.out.below hB)
    clear hB
    by_cases e : s < q
    · obtain ⟨al, po, si, m1, m2, mm, qc, c, f1, f2, f3, f4, f5, f6, f7, f8, f9, f10, f11, f12, f13, f14, f15, f16, f17, f18⟩ := slot_facts hp.out HQ.out e
      have C33 := hid (fun w' h' => validSlot_yes F q s w' h' HQ.out e hqb)
      have C34 := hid (fun w' h' => slotCell_yes F q s w' h' HQ.out e hqb)
      rw [← f2, ← f3, f11] at C34
      have C22 := hid (fun w' h' => kindOf_is F c 4 w' h' f12 f13)
      have C35 := hid (fun w' h' => cellSlots_any F c al po m1 m2 w' h' f12 f13 f4 f5 f14 f15 f8 f9 (by omega))
      have C36 := hid (fun w' h' => slotRack_yes F q s al po si mm qc w' h' HQ.out e hqb f1 f2 f3 f4 f5 f7 f16 f17)
      have C37 := hid (fun w' h' => kindAt_is F (2 + (po : Int)) (qc : Int) 3 w' h' f18)
      have hmm : mm ≤ 24 := by rw [← f16]; exact Nat.mul_le_mul (show al ≤ 8 by omega) (show F.P ≤ 3 by omega)
      obtain ⟨cc, hcc⟩ : ∃ cc, cc = 1 + mm := ⟨_, rfl⟩
      obtain ⟨rr, hrr⟩ : ∃ rr, rr = 2 + po := ⟨_, rfl⟩
      have C24 := hid (fun w' => abs_ext qc cc 1 w' (by omega) (by omega) (by unfold nab; omega))
      have b1 : ((2 + (po : Int)) != (rr : Int)) = false := by simp; omega
      have hcb : cc ≤ 100 ∧ qc ≤ 100 ∧ rr ≤ 100 := by omega
      have C38 := hid (fun w' h' => slotLabel_any F q s al po si _ _ w' h' HQ.out e hqb f1 f2 f3 f4 f5 f7 rfl rfl)
      have C39 := hid (fun sb w' h' hL => parse_any F sb s al po si ((po + 1) / 10) ((po + 1) % 10) m1 m2 w' h' hL f4 f5 f6 (by omega) (by omega) f8 f9 f10 (by omega))
      rw [f16, ← hcc] at f14
      rw [← hrr] at f15
      have P0 : Hid (∀ w' : World, FlN w' F → w'.cell? ⟨F.qb, c * 2, none⟩ = some (.int .i64 (rr))) := hid (fun w' h' => by
        have := h'.num.pos0 c f12
        rw [Nat.zero_add, show plc (fun t => drv (F.kd t)) F.L c / F.W = F.row c from rfl, f15] at this
        exact this)
      have P1 : Hid (∀ w' : World, FlN w' F → w'.cell? ⟨F.qb, c * 2 + 1, none⟩ = some (.int .i64 (cc))) := hid (fun w' h' => by
        have := h'.num.pos1 c f12
        rw [Nat.zero_add, show plc (fun t => drv (F.kd t)) F.L c % F.W = F.col c from rfl, f14] at this
        exact this)
      have hN384 : F.N ≤ 384 := by rw [H.out.num.hN]; exact Nat.le_trans (cnt_le _ _) H.out.hLb
      have hsi2 : si < F.D := f6
      have hsm : m2 + si = s := f10
      clear f1 f2 f3 f4 f5 f7 f8 f9 f11 f13 f14 f15 f16 f17 f18 f6 f10 hcc hrr
      go_wp2_with (first | (go_at_call 33; refine (C33.out _ HF.out).mono ?_; rintro e w' ⟨rfl, z1, rfl⟩) | (go_at_call 34; refine (C34.out _ (HF.out.below (by (repeat (first | with_reducible exact Below.rf _ | with_reducible exact World.below_ext _ _ | with_reducible refine Below.ex ?_ _ | with_reducible refine Below.al ?_ _ | with_reducible refine Below.setCell ?_ (by simp) _ | with_reducible refine Below.drew ?_))))).mono ?_; rintro e w' ⟨rfl, z2, rfl⟩) | (go_at_call 22; refine (C22.out _ (HF.out.below (by (repeat (first | with_reducible exact Below.rf _ | with_reducible exact World.below_ext _ _ | with_reducible refine Below.ex ?_ _ | with_reducible refine Below.al ?_ _ | with_reducible refine Below.setCell ?_ (by simp) _ | with_reducible refine Below.drew ?_))))).mono ?_; rintro e w' ⟨rfl, z3, rfl⟩) | (go_at_call 35; refine (C35.out _ (HF.out.below (by (repeat (first | with_reducible exact Below.rf _ | with_reducible exact World.below_ext _ _ | with_reducible refine Below.ex ?_ _ | with_reducible refine Below.al ?_ _ | with_reducible refine Below.setCell ?_ (by simp) _ | with_reducible refine Below.drew ?_))))).mono ?_; rintro e w5 ⟨g, rfl, hg, hcell, hB5⟩))
      have hB6 : Below w.heap.size w w5 := HB.out.trans (Below.mono (Below.trans (by (repeat (first | with_reducible exact Below.rf _ | with_reducible exact World.below_ext _ _ | with_reducible refine Below.ex ?_ _ | with_reducible refine Below.al ?_ _ | with_reducible refine Below.setCell ?_ (by simp) _ | with_reducible refine Below.drew ?_))) (Below.mono hB5 (by simp; try omega))) HB.out.size)
      have HB6 := hid hB6
      have HC := hid hcell
      clear hB5 hB6 hcell
      go_loopw [6, 42] (fun x v w2 => ∃ j : Nat, v = .int .i64 (j) ∧ x = .bool (decide (si < j)) ∧ j ≤ F.D ∧ w2 = w5) (fun _ v _ => F.D - (intOf v).toNat)
      case atStart => exact ⟨0, rfl, by simp, Nat.zero_le _, rfl⟩
      case round =>
        obtain ⟨j, rfl, rfl, hj, rfl⟩ := hrel
        by_cases e2 : j < F.D
        · have dj : decide ((j : Int) < (F.D : Int)) = true := by simp; omega
          have cj := HC.out j e2
          obtain ⟨x, hx⟩ : ∃ x, m2 + j = x := ⟨_, rfl⟩
          rw [hx] at cj
          by_cases e3 : si < j
          · have k1 : decide (si < j) = true := decide_eq_true e3
            have k2 : decide (si < j + 1) = true := by simp; omega
            rw [k1]
            clear hx
            go_wp2
            go_roundw
            case rel => exact ⟨j + 1, by go_num, by rw [k2], by omega, trivial⟩
            case measure => simp [intOf]; omega
          · have k1 : decide (si < j) = false := decide_eq_false e3
            rw [k1]
            by_cases e4 : j = si
            · have k2 : decide (si < j + 1) = true := by simp; omega
              have bx : ((x : Int) == (s : Int)) = true := by simp; omega
              clear hx e4
              go_wp2
              go_roundw
              case rel => exact ⟨j + 1, by go_num, by rw [k2], by omega, trivial⟩
              case measure => simp [intOf]; omega
            · have k2 : decide (si < j + 1) = false := by simp; omega
              have bx : ((x : Int) == (s : Int)) = false := by simp; omega
              clear hx e4
              go_wp2
              go_roundw
              case rel => exact ⟨j + 1, by go_num, by rw [k2], by omega, trivial⟩
              case measure => simp [intOf]; omega
        · have dj : decide ((j : Int) < (F.D : Int)) = false := by simp; omega
          have k1 : decide (si < j) = true := decide_eq_true (by omega)
          rw [k1]
          have HF5 := hid (H.out.below HB6.out)
          have p0 := P0.out _ HF5.out
          have p1 := P1.out _ HF5.out
          have i11 := HF5.out.num.i11
          have hqc := HF5.out.num.qc
          have hql := HF5.out.num.lt.2.1
          have hfb := HF5.out.hdr.hfb
          have bs : ((s : Int) != (s : Int)) = false := by simp
          clear HC hg
          go_wp2_with (go_at_call 36; refine (C36.out _ HF5.out).mono ?_; rintro e w' ⟨rfl, z4, rfl⟩)
          first | with_reducible refine wp_region_ext2 (by kernel_rfl) (by kernel_rfl) ?_ | refine wp_region_ext (by kernel_rfl) (by kernel_rfl) ?_
          repeat (go_big_quiet_step (first | (go_at_call 37; exact Calls.ext_of (C37.out _ (HF5.out.below (by (repeat (first | with_reducible exact Below.rf _ | with_reducible exact World.below_ext _ _ | with_reducible refine Below.ex ?_ _ | with_reducible refine Below.al ?_ _ | with_reducible refine Below.setCell ?_ (by simp) _ | with_reducible refine Below.drew ?_)))))) | (go_at_call 24; exact Calls.ext_of (C24.out _))))
          refine wpQuiet_nil ?_
          rintro _ ⟨z, rfl⟩
          go_wp2_with (first | (go_at_call 38; refine (C38.out _ (HF5.out.below (by (repeat (first | with_reducible exact Below.rf _ | with_reducible exact World.below_ext _ _ | with_reducible refine Below.ex ?_ _ | with_reducible refine Below.al ?_ _ | with_reducible refine Below.setCell ?_ (by simp) _ | with_reducible refine Below.drew ?_))))).mono ?_; rintro e w6 ⟨sb, rfl, hL, hB7⟩; have HL := hid hL; have HB7 := hid (HB6.out.trans (Below.mono (Below.trans (by (repeat (first | with_reducible exact Below.rf _ | with_reducible exact World.below_ext _ _ | with_reducible refine Below.ex ?_ _ | with_reducible refine Below.al ?_ _ | with_reducible refine Below.setCell ?_ (by simp) _ | with_reducible refine Below.drew ?_))) (Below.mono hB7 (by simp; try omega))) HB6.out.size)); clear hL hB7) | (go_at_call 39; refine (C39.out _ _ (H.out.below HB7.out) HL.out).mono ?_; rintro e w' ⟨rfl, z6, rfl⟩))
          go_roundw
          case rel => exact ⟨s + 1, by go_num, by omega, HB7.out.ex _⟩
          case measure => simp [intOf]; omega
    · obtain rfl : s = q := by omega
      have V := hid (validSlot_no F s wr HF.out HQ.out hqb)
      go_wp2_with (go_at_call 33; refine V.out.mono ?_; rintro e w' ⟨rfl, z1, rfl⟩)
      go_ret
      exact ⟨rfl, (HB.out.ex _).is_ext⟩
end Go.Proofs.Qxb6500715aFmt
