/-
  AisleCells, SlotAt, SlotRack, SlotDist: the walks.
-/
import Derived.Test.Qxb6500715aDoorHelp1
namespace Go.Proofs.Qxb6500715aDoor
open Go.RowKit
set_option linter.unusedSimpArgs false
set_option linter.unusedVariables false

/-- The cells of an aisle. -/
def FP.acs (F : FP) (al k : Nat) : List Nat := (List.range k).map fun p => F.aisle al p

set_option maxRecDepth 20000 in
set_option maxHeartbeats 2000000 in
theorem aisleCells_any (F : FP) (al : Nat) (w : World) (h : FlN w F) (ha : al < F.A) :
    Calls Tryd.prog 80 #[.pointer (some ⟨F.fb, 0, none⟩), .int .i64 (al)] w (newPost (F.acs al F.S) F.S w) := by
  have HH := hid h
  have h0 := h.hdr.h0
  have h1 := h.hdr.h1
  have hS := h.lay.hS
  have hA := h.lay.hA
  obtain ⟨Z, hZ, -, hmk⟩ := make_is (P := Tryd.prog) 31 28 (.int .i64 0) 1 8 Tryd.underlying31 (by kernel_rfl) F.S (by omega) (by omega)
  have q0 : decide ((al : Int) < 0) = false := by simp
  have q1 : decide (F.A ≤ al) = false := by simp; omega
  clear h
  go_enter Tryd.func80, Tryd.ntmps80
  go_wp2
  obtain ⟨g, hg⟩ : ∃ x, w.heap.size = x := ⟨_, rfl⟩
  have hp0 : Pad (w.alloc (.cells Z 28)) g F.S (idRow (F.acs al 0)) := Pad.made w Z 28 F.S g _ hg.symm (by omega) (by simp [idRow, FP.acs]) (by simp [idRow, FP.acs])
  have hB0 : Below w.heap.size w (w.alloc (.cells Z 28)) := by (repeat (first | with_reducible exact Below.rf _ | with_reducible exact World.below_ext _ _ | with_reducible refine Below.ex ?_ _ | with_reducible refine Below.al ?_ _ | with_reducible refine Below.setCell ?_ (by simp) _ | with_reducible refine Below.drew ?_))
  have HP0 := hid hp0
  have HB0 := hid hB0
  have HG := hid hg
  rw [hg]
  clear hp0 hB0 hmk hg
  go_loopw [26] (fun x wr => ∃ t : Nat, x = .int .i64 (t) ∧ t ≤ F.S ∧ Pad wr g F.S (idRow (F.acs al t)) ∧ Below w.heap.size w wr) (fun x _ => F.S - (intOf x).toNat)
  case atStart => exact ⟨0, rfl, Nat.zero_le _, HP0.out, HB0.out⟩
  case round =>
    clear HP0 HB0 h0 h1
    obtain ⟨t, rfl, ht, hP, hB⟩ := hrel
    have HP := hid hP
    have HB := hid hB
    have hsz := hB.size
    have hgl := hP.lt
    by_cases hlt : t < F.S
    · have AC := hid (aisleCell_yes F al t wr (HH.out.below hB) ha hlt)
      have hil : (idRow (F.acs al t)).length = t := by simp [idRow, FP.acs]
      obtain ⟨old, hold⟩ := Option.isSome_iff_exists.1 (hP.has t (by omega))
      have hfz := hP.fz t (by omega)
      have hsucc : F.acs al (t + 1) = F.acs al t ++ [F.aisle al t] := by simp [FP.acs, List.range_succ]
      generalize F.aisle al t = cc at *
      have HSU := hid hsucc
      have hpush := (hP.below (World.below_ext wr wr)).push
      have bt : decide ((t : Int) < F.S) = true := by simp; omega
      clear hP hB hsucc hpush
      go_wp2_with (go_at_call 67; refine AC.out.mono ?_; rintro e w' ⟨rfl, z1, rfl⟩)
      go_roundw
      case rel =>
        refine ⟨t + 1, by go_num, by omega, ?_, ?_⟩
        · have h1 := HP.out.push [.int .i64 (cc)] (by simp [hil]; omega)
          rw [hil] at h1
          have h2 : Pad ((wr.setCell ⟨g, t, none⟩ (.int .i64 (cc))).ext z1) g F.S (idRow (F.acs al t) ++ [.int .i64 (cc)]) := Pad.below h1 (World.below_ext _ z1)
          rw [HSU.out]; unfold idRow at h2 ⊢; rw [List.map_append]; exact h2
        · refine Below.ex ?_ _
          exact HB.out.setCell (by show w.heap.size ≤ g; rw [HG.out]; exact Nat.le_refl _) _
      case measure => simp [intOf]; omega
    · obtain rfl : t = F.S := by omega
      clear hP hB
      go_wp2
      go_ret
      exact ⟨g, _, rfl, HP.out.lt, fun i c hc => HP.out.is i _ (by simp [idRow, hc]), HB.out.is_ext⟩

set_option maxHeartbeats 1000000 in
theorem slotAt_any (F : FP) (al po si s m1 m2 : Nat) (w : World) (h : FlN w F) (h1 : al < F.A) (h2 : po < F.S) (h3 : si < F.D) (e1 : al * F.S = m1) (e2 : (m1 + po) * F.D = m2) (e3 : m2 + si = s) (hs : s ≤ 1000) :
    Calls Tryd.prog 82 #[.pointer (some ⟨F.fb, 0, none⟩), .agg #[.int .i64 (al), .int .i64 (po), .int .i64 (si)]] w fun e w' => e = .returned (.tuple #[.int .i64 (s), .bool true]) ∧ ∃ z, w' = w.ext z := by
  obtain ⟨hfb, hW, d0, d1, d2, d3, d4, d5, d6, d7, d8, fz⟩ := h.hdr
  have i1 : (al : Int) * (F.S : Int) = m1 := by rw [← e1]; exact (Int.natCast_mul _ _).symm
  have i2 : ((m1 : Int) + (po : Int)) * (F.D : Int) = m2 := by rw [← e2, Int.natCast_mul]; rfl
  have hA := h.lay.hA
  have hS := h.lay.hS
  have hD := h.lay.hD
  have b1 : m1 ≤ 1000 := by rw [← e1]; exact Nat.le_trans (Nat.mul_le_mul (show al ≤ 8 by omega) hS.2) (by omega)
  have b2 : m2 ≤ 1000 := by omega
  have i3 : (m2 : Int) + (si : Int) = (s : Int) := by omega
  have q0 : decide ((al : Int) < 0) = false := by simp
  have q1 : decide (F.A ≤ al) = false := by simp; omega
  have q2 : decide ((po : Int) < 0) = false := by simp
  have q3 : decide (F.S ≤ po) = false := by simp; omega
  have q4 : decide ((si : Int) < 0) = false := by simp
  have q5 : decide (F.D ≤ si) = false := by simp; omega
  clear h hW fz e1 e2 e3
  go_enter Tryd.func82, Tryd.ntmps82
  go_wp2
  first | with_reducible refine wp_region_ext2 (by kernel_rfl) (by kernel_rfl) ?_ | refine wp_region_ext (by kernel_rfl) (by kernel_rfl) ?_
  repeat (go_big_quiet_step (fail))
  refine wpQuiet_nil ?_
  rintro _ ⟨z, rfl⟩
  go_wp2
  first | with_reducible refine wp_region_ext2 (by kernel_rfl) (by kernel_rfl) ?_ | refine wp_region_ext (by kernel_rfl) (by kernel_rfl) ?_
  repeat (go_big_quiet_step (fail))
  refine wpQuiet_nil ?_
  rintro _ ⟨z, rfl⟩
  go_wp2
  go_ret2
  refine ⟨rfl, ?_⟩
  refine Below.is_ext ?_
  repeat (first | with_reducible exact Below.rf _ | with_reducible exact World.below_ext _ _ | with_reducible refine Below.ex ?_ _ | with_reducible refine Below.al ?_ _ | with_reducible refine Below.setCell ?_ (by simp) _ | with_reducible refine Below.drew ?_)

/-- The rack beside an aisle. -/
theorem rack_kind {F : FP} (hp : Pln F) {al po si : Nat} (h1 : al < F.A) (h2 : po < F.S) (h3 : si < F.D) : al * F.P + 2 * si < F.W ∧ F.kd ((2 + po) * F.W + (al * F.P + 2 * si)) = 3 := by
  have hD := hp.lay.hD
  have hP := hp.lay.hP
  have hS := hp.lay.hS
  have hlt := isAc_lt (A := F.A) (P := F.P) (x := 1 + al * F.P) ⟨al, h1, rfl⟩
  have hw : al * F.P + 2 * si < F.W := by rw [hp.hW]; omega
  refine ⟨hw, ?_⟩
  rw [hp.kind (2 + po) _ (by omega) hw, kind3, nobay hp ⟨by omega, by omega⟩, if_neg (by simp), kind2, if_pos ⟨by omega, by omega⟩]
  rcases (by omega : si = 0 ∨ si = 1) with rfl | rfl
  · rw [if_neg, if_pos]
    · left
      refine ⟨by simp [Nat.mul_mod_left], Or.inl ?_⟩
      rw [Nat.mul_zero, Nat.add_zero, Nat.mul_div_cancel _ (by omega)]; exact h1
    · rintro ⟨g1, g2, g3⟩
      obtain ⟨k, rfl⟩ : ∃ k, al = k + 1 := by
        cases al with
        | zero => simp at g1
        | succ k => exact ⟨k, rfl⟩
      rw [Nat.add_mul, Nat.one_mul] at g2
      rcases hP with hP | hP <;> rw [hP] at g2 <;> omega
  · rw [if_neg, if_pos]
    · right
      have e : al * F.P + 2 * 1 - 2 = al * F.P := by omega
      refine ⟨by omega, by omega, ?_, Or.inl ?_⟩
      · rw [e]; exact Nat.mul_mod_left _ _
      · rw [e, Nat.mul_div_cancel _ (by omega)]; exact h1
    · rintro ⟨g1, g2, g3⟩
      rcases hP with hP | hP <;> rw [hP] at g2 <;> omega

set_option maxRecDepth 20000 in
set_option maxHeartbeats 2000000 in
theorem slotRack_yes (F : FP) (q s al po si mm qc : Nat) (w : World) (h : FlN w F) (hq : q = F.A * F.S * F.D) (hs : s < q) (hqb : q ≤ 192) (h1 : si = s % F.D) (h2 : al = s / F.D / F.S) (h3 : po = s / F.D % F.S) (hal : al < F.A) (hpo : po < F.S) (hsi : si ≤ 1) (hmm : al * F.P = mm) (hqc : mm + 2 * si = qc) :
    Calls Tryd.prog 83 #[.pointer (some ⟨F.fb, 0, none⟩), .int .i64 (s)] w fun e w' => e = .returned (.tuple #[.agg #[.int .i64 (2 + (po : Int)), .int .i64 (qc)], .bool true]) ∧ ∃ z, w' = w.ext z := by
  have HH := hid h
  have SP := hid (fun w' (h' : FlN w' F) => slotPlace_yes F q s al po si w' h' hq hs hqb h1 h2 h3)
  have hA := h.lay.hA
  have hP := h.lay.hP
  have hS := h.lay.hS
  obtain ⟨hfb, hW, d0, d1, d2, d3, d4, d5, d6, d7, d8, fz⟩ := h.hdr
  have hm : mm ≤ 24 := by rw [← hmm]; exact Nat.mul_le_mul (show al ≤ 8 by omega) (show F.P ≤ 3 by omega)
  have HAC := hid (fun w' => (show (1 : Int) + (al : Int) * (F.P : Int) = ((1 + mm : Nat) : Int) by rw [← hmm]; push_cast; rfl) ▸ aisleCol_any F.A F.S F.P F.D 1 F.c (.slice (some ⟨F.pb, 0, none⟩) F.n F.cap) al w' (by rw [show (al : Int) * (F.P : Int) = (mm : Int) by rw [← hmm]; push_cast; rfl]; omega))
  clear h hq h1 h2 h3 hmm hW fz
  rcases (by omega : si = 0 ∨ si = 1) with rfl | rfl
  · obtain rfl : mm = qc := by omega
    clear hqc
    go_enter Tryd.func83, Tryd.ntmps83
    go_wp2_with (go_at_call 66; refine (SP.out _ (HH.out.al _)).mono ?_; rintro e w' ⟨rfl, z, rfl⟩)
    first | with_reducible refine wp_region_ext2 (by kernel_rfl) (by kernel_rfl) ?_ | refine wp_region_ext (by kernel_rfl) (by kernel_rfl) ?_
    repeat (go_big_quiet_step ((go_at_call 89; exact Calls.ext_of (HAC.out _))))
    refine wpQuiet_nil ?_
    rintro _ ⟨z, rfl⟩
    go_wp2
    refine bodyPost_ret (v := .tuple #[.agg #[.int .i64 (2 + (po : Int)), .int .i64 (1 + (mm : Int) - 1)], .bool true]) (by simp [results, Tryd.results83, go_sem, ↓IntWalk.iteOmega]) rfl ⟨by rw [show (1 + (mm : Int) - 1) = (mm : Int) by omega], ?_⟩
    refine Below.is_ext ?_
    repeat (first | with_reducible exact Below.rf _ | with_reducible exact World.below_ext _ _ | with_reducible refine Below.ex ?_ _ | with_reducible refine Below.al ?_ _ | with_reducible refine Below.setCell ?_ (by simp) _ | with_reducible refine Below.drew ?_)
  · have hq2 : mm + 2 ≤ qc ∧ qc ≤ mm + 2 := by omega
    clear hqc
    go_enter Tryd.func83, Tryd.ntmps83
    go_wp2_with (go_at_call 66; refine (SP.out _ (HH.out.al _)).mono ?_; rintro e w' ⟨rfl, z, rfl⟩)
    first | with_reducible refine wp_region_ext2 (by kernel_rfl) (by kernel_rfl) ?_ | refine wp_region_ext (by kernel_rfl) (by kernel_rfl) ?_
    repeat (go_big_quiet_step ((go_at_call 89; exact Calls.ext_of (HAC.out _))))
    refine wpQuiet_nil ?_
    rintro _ ⟨z, rfl⟩
    go_wp2
    refine bodyPost_ret (v := .tuple #[.agg #[.int .i64 (2 + (po : Int)), .int .i64 (1 + (mm : Int) - 1 + 2)], .bool true]) (by simp [results, Tryd.results83, go_sem, ↓IntWalk.iteOmega]) rfl ⟨by rw [show (1 + (mm : Int) - 1 + 2) = (qc : Int) by omega], ?_⟩
    refine Below.is_ext ?_
    repeat (first | with_reducible exact Below.rf _ | with_reducible exact World.below_ext _ _ | with_reducible refine Below.ex ?_ _ | with_reducible refine Below.al ?_ _ | with_reducible refine Below.setCell ?_ (by simp) _ | with_reducible refine Below.drew ?_)

theorem slotDist_yes (F : FP) (q s t : Nat) (w : World) (h : FlN w F) (hq : q = F.A * F.S * F.D) (hs : s < q) (ht : t < q) (hqb : q ≤ 192) (c d : Nat) (hc : F.aisle (s / F.D / F.S) (s / F.D % F.S) = c) (hd : F.aisle (t / F.D / F.S) (t / F.D % F.S) = d) (hcN : c < F.N) (hdN : d < F.N) :
    Calls Tryd.prog 85 #[.pointer (some ⟨F.fb, 0, none⟩), .int .i64 (s), .int .i64 (t)] w fun e w' => e = .returned (.int .i64 (F.dst c d)) ∧ ∃ z, w' = w.ext z := by
  have HH := hid h
  have C1 := hid (fun w' (h' : FlN w' F) => hc ▸ slotCell_yes F q s w' h' hq hs hqb)
  have C2 := hid (fun w' (h' : FlN w' F) => hd ▸ slotCell_yes F q t w' h' hq ht hqb)
  have DD := hid (fun w' (h' : FlN w' F) => dist_any F c d w' h' hcN hdN)
  generalize F.dst c d = x at *
  clear h hq hc hd
  go_enter Tryd.func85, Tryd.ntmps85
  go_wp2_with (first | (go_at_call 38; first | (with_reducible refine (C1.out _ HH.out).mono ?_; rintro e w' ⟨rfl, z1, rfl⟩) | (with_reducible refine (C2.out _ (HH.out.ex _)).mono ?_; rintro e w' ⟨rfl, z2, rfl⟩)) | (go_at_call 20; refine (DD.out _ (HH.out.ex _)).mono ?_; rintro e w' ⟨rfl, z3, rfl⟩))
  go_ret
  refine ⟨rfl, ?_⟩
  refine Below.is_ext ?_
  repeat (first | with_reducible exact Below.rf _ | with_reducible exact World.below_ext _ _ | with_reducible refine Below.ex ?_ _ | with_reducible refine Below.al ?_ _ | with_reducible refine Below.setCell ?_ (by simp) _ | with_reducible refine Below.drew ?_)
end Go.Proofs.Qxb6500715aDoor
