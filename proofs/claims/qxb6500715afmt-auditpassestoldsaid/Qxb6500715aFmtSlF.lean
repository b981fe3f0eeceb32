/-
  AisleAt, AisleOf, SlotAt, SlotRack: the walks.
-/
import Derived.Test.Qxb6500715aFmtSlot
import Derived.Test.Qxb6500715aFmtFar3
import Derived.Test.Qxb6500715aFmtPad
namespace Go.Proofs.Qxb6500715aFmt
open Go.RowKit
set_option linter.unusedSimpArgs false
set_option linter.unusedVariables false
set_option maxHeartbeats 1000000 in
theorem aisleAt_yes (F : FP) (al : Nat) (q qq : Nat) (w : World) (hP : 2 ≤ F.P ∧ F.P ≤ 3) (hA : F.A ≤ 8) (hal : al < F.A) (hq : q = 1 + qq) (hqq : qq = al * F.P) :
    Calls Tryf.prog 77 #[.agg #[.int .i64 (F.A), .int .i64 (F.S), .int .i64 (F.P), .int .i64 (F.D), .int .i64 (1), .int .i64 (F.c), .slice (some ⟨F.pb, 0, none⟩) F.n F.cap], .int .i64 (q)] w fun e w' => e = .returned (.tuple #[.int .i64 (al), .bool true]) ∧ ∃ z, w' = w.ext z := by
  have hb : qq ≤ 24 := by rw [hqq]; exact Nat.mul_le_mul (show al ≤ 8 by omega) hP.2
  have e1 : ((q : Int) - 1).tmod (F.P : Int) = 0 := by
    rw [show (q : Int) - 1 = ((al * F.P : Nat) : Int) by omega, ← Int.ofNat_tmod, Nat.mul_mod_left]; rfl
  have e2 : ((q : Int) - 1).tdiv (F.P : Int) = al := by
    rw [show (q : Int) - 1 = ((al * F.P : Nat) : Int) by omega, ← Int.ofNat_tdiv, Nat.mul_div_cancel _ (by omega)]
  have p0 : ((F.P : Int) == 0) = false := by simp; omega
  have q1 : 1 ≤ q ∧ q ≤ 25 := by omega
  have q2 : decide ((q : Int) - 1 < 0) = false := by simp; omega
  have q3 : decide ((al : Int) < F.A) = true := by simp; omega
  clear hq hqq
  go_enter Tryf.func77, Tryf.ntmps77
  go_wp2
  first | with_reducible refine wp_region_ext2 (by kernel_rfl) (by kernel_rfl) ?_ | refine wp_region_ext (by kernel_rfl) (by kernel_rfl) ?_
  repeat (go_big_quiet_step (fail))
  refine wpQuiet_nil ?_
  rintro _ ⟨z, rfl⟩
  go_wp2
  go_ret2
  refine ⟨rfl, ?_⟩
  refine Below.is_ext ?_
  repeat (first | with_reducible exact Below.rf _ | with_reducible exact World.below_ext _ _ | with_reducible refine Below.ex ?_ _ | with_reducible refine Below.al ?_ _ | with_reducible refine Below.setCell ?_ (by simp) _ | with_reducible refine Below.drew ?_)

set_option maxRecDepth 20000 in
set_option maxHeartbeats 1000000 in
theorem aisleOf_yes (F : FP) (c al rr : Nat) (w : World) (h : FlN w F) (hc : c < F.N) (hk : F.kd (F.pl c) = 4) (hal : al < F.A) (hq : F.col c = 1 + al * F.P) (hr : F.row c = rr) :
    Calls Tryf.prog 59 #[.pointer (some ⟨F.fb, 0, none⟩), .int .i64 (c)] w fun e w' => e = .returned (.tuple #[.int .i64 (al), .int .i64 ((rr : Int) - 2), .bool true]) ∧ ∃ z, w' = w.ext z := by
  have HH := hid h
  have HK := hid hk
  have hp := h.pln
  have hP := h.lay.hP
  have hA := h.lay.hA
  have hS := h.lay.hS
  have i11 := h.num.i11
  have hqc := h.num.qc
  have hql := h.num.lt.2.1
  obtain ⟨hfb, hW, h0, h1, h2, h3, h4, h5, h6, h7, h8, fz⟩ := h.hdr
  have p0 := h.num.pos0 c hc
  have p1 := h.num.pos1 c hc
  rw [Nat.zero_add] at p0 p1
  rw [show plc (fun t => drv (F.kd t)) F.L c / F.W = F.row c from rfl, hr] at p0
  rw [show plc (fun t => drv (F.kd t)) F.L c % F.W = F.col c from rfl] at p1
  have hrb := (cell_on hp hc).1
  have hcb := (cell_on hp hc).2.1
  have hWb := h.hWb
  rw [hr] at hrb
  obtain ⟨q, hqe⟩ : ∃ q, F.col c = q := ⟨_, rfl⟩
  rw [hqe] at p1 hq hcb
  have HAT := hid (fun w' => aisleAt_yes F al q (al * F.P) w' (by omega) hA.2 hal hq rfl)
  clear h hk hq hr hqe hp fz hW
  go_enter Tryf.func59, Tryf.ntmps59
  go_wp2_with (go_at_call 22; refine (kindOf_is F c 4 _ HH.out hc HK.out).mono ?_; rintro e w' ⟨rfl, z, rfl⟩)
  first | with_reducible refine wp_region_ext2 (by kernel_rfl) (by kernel_rfl) ?_ | refine wp_region_ext (by kernel_rfl) (by kernel_rfl) ?_
  repeat (go_big_quiet_step ((go_at_call 77; exact Calls.ext_of (HAT.out _))))
  refine wpQuiet_nil ?_
  rintro _ ⟨z, rfl⟩
  go_wp2
  first | with_reducible refine wp_region_ext2 (by kernel_rfl) (by kernel_rfl) ?_ | refine wp_region_ext (by kernel_rfl) (by kernel_rfl) ?_
  repeat (go_big_quiet_step (fail))
  refine wpQuiet_nil ?_
  rintro _ ⟨z, rfl⟩
  go_wp2
  refine bodyPost_ret (v := .tuple #[.int .i64 (al), .int .i64 ((rr : Int) - 2), .bool true]) (by simp [results, Tryf.results59, go_sem, ↓IntWalk.iteOmega]) rfl ⟨rfl, ?_⟩
  refine Below.is_ext ?_
  repeat (first | with_reducible exact Below.rf _ | with_reducible exact World.below_ext _ _ | with_reducible refine Below.ex ?_ _ | with_reducible refine Below.al ?_ _ | with_reducible refine Below.setCell ?_ (by simp) _ | with_reducible refine Below.drew ?_)

set_option maxHeartbeats 1000000 in
theorem slotAt_any (F : FP) (al po si s m1 m2 : Nat) (w : World) (h : FlN w F) (h1 : al < F.A) (h2 : po < F.S) (h3 : si < F.D) (e1 : al * F.S = m1) (e2 : (m1 + po) * F.D = m2) (e3 : m2 + si = s) (hs : s ≤ 1000) :
    Calls Tryf.prog 60 #[.pointer (some ⟨F.fb, 0, none⟩), .agg #[.int .i64 (al), .int .i64 (po), .int .i64 (si)]] w fun e w' => e = .returned (.tuple #[.int .i64 (s), .bool true]) ∧ ∃ z, w' = w.ext z := by
  obtain ⟨hfb, hW, d0, d1, d2, d3, d4, d5, d6, d7, d8, fz⟩ := h.hdr
  have i1 : (al : Int) * (F.S : Int) = m1 := by rw [← e1]; exact (Int.natCast_mul _ _).symm
  have i2 : ((m1 : Int) + (po : Int)) * (F.D : Int) = m2 := by rw [← e2, Int.natCast_mul]; rfl
  have hA := h.lay.hA
  have hS := h.lay.hS
  have hD := h.lay.hD
  have b1 : m1 ≤ 1000 := by rw [← e1]; exact Nat.le_trans (Nat.mul_le_mul (show al ≤ 8 by omega) hS.2) (by omega)
  have b2 : m2 ≤ 1000 := by omega
  have i3 : (m2 : Int) + (si : Int) = (s : Int) := by omega
  have q0 : decide ((al : Int) < 0) = false := by simp
  have q1 : decide (F.A ≤ al) = false := by simp; omega
  have q2 : decide ((po : Int) < 0) = false := by simp
  have q3 : decide (F.S ≤ po) = false := by simp; omega
  have q4 : decide ((si : Int) < 0) = false := by simp
  have q5 : decide (F.D ≤ si) = false := by simp; omega
  clear h hW fz e1 e2 e3
  go_enter Tryf.func60, Tryf.ntmps60
  go_wp2
  first | with_reducible refine wp_region_ext2 (by kernel_rfl) (by kernel_rfl) ?_ | refine wp_region_ext (by kernel_rfl) (by kernel_rfl) ?_
  repeat (go_big_quiet_step (fail))
  refine wpQuiet_nil ?_
  rintro _ ⟨z, rfl⟩
  go_wp2
  first | with_reducible refine wp_region_ext2 (by kernel_rfl) (by kernel_rfl) ?_ | refine wp_region_ext (by kernel_rfl) (by kernel_rfl) ?_
  repeat (go_big_quiet_step (fail))
  refine wpQuiet_nil ?_
  rintro _ ⟨z, rfl⟩
  go_wp2
  go_ret2
  refine ⟨rfl, ?_⟩
  refine Below.is_ext ?_
  repeat (first | with_reducible exact Below.rf _ | with_reducible exact World.below_ext _ _ | with_reducible refine Below.ex ?_ _ | with_reducible refine Below.al ?_ _ | with_reducible refine Below.setCell ?_ (by simp) _ | with_reducible refine Below.drew ?_)

/-- The rack beside an aisle. -/
theorem rack_kind {F : FP} (hp : Pln F) {al po si : Nat} (h1 : al < F.A) (h2 : po < F.S) (h3 : si < F.D) : al * F.P + 2 * si < F.W ∧ F.kd ((2 + po) * F.W + (al * F.P + 2 * si)) = 3 := by
  have hD := hp.lay.hD
  have hP := hp.lay.hP
  have hS := hp.lay.hS
  have hlt := isAc_lt (A := F.A) (P := F.P) (x := 1 + al * F.P) ⟨al, h1, rfl⟩
  have hw : al * F.P + 2 * si < F.W := by rw [hp.hW]; omega
  refine ⟨hw, ?_⟩
  rw [hp.kind (2 + po) _ (by omega) hw, kind3, nobay hp ⟨by omega, by omega⟩, if_neg (by simp), kind2, if_pos ⟨by omega, by omega⟩]
  rcases (by omega : si = 0 ∨ si = 1) with rfl | rfl
  · rw [if_neg, if_pos]
    · left
      refine ⟨by simp [Nat.mul_mod_left], Or.inl ?_⟩
      rw [Nat.mul_zero, Nat.add_zero, Nat.mul_div_cancel _ (by omega)]; exact h1
    · rintro ⟨g1, g2, g3⟩
      obtain ⟨k, rfl⟩ : ∃ k, al = k + 1 := by
        cases al with
        | zero => simp at g1
        | succ k => exact ⟨k, rfl⟩
      rw [Nat.add_mul, Nat.one_mul] at g2
      rcases hP with hP | hP <;> rw [hP] at g2 <;> omega
  · rw [if_neg, if_pos]
    · right
      have e : al * F.P + 2 * 1 - 2 = al * F.P := by omega
      refine ⟨by omega, by omega, ?_, Or.inl ?_⟩
      · rw [e]; exact Nat.mul_mod_left _ _
      · rw [e, Nat.mul_div_cancel _ (by omega)]; exact h1
    · rintro ⟨g1, g2, g3⟩
      rcases hP with hP | hP <;> rw [hP] at g2 <;> omega

set_option maxRecDepth 20000 in
set_option maxHeartbeats 2000000 in
theorem slotRack_yes (F : FP) (q s al po si mm qc : Nat) (w : World) (h : FlN w F) (hq : q = F.A * F.S * F.D) (hs : s < q) (hqb : q ≤ 192) (h1 : si = s % F.D) (h2 : al = s / F.D / F.S) (h3 : po = s / F.D % F.S) (hal : al < F.A) (hpo : po < F.S) (hsi : si ≤ 1) (hmm : al * F.P = mm) (hqc : mm + 2 * si = qc) :
    Calls Tryf.prog 36 #[.pointer (some ⟨F.fb, 0, none⟩), .int .i64 (s)] w fun e w' => e = .returned (.tuple #[.agg #[.int .i64 (2 + (po : Int)), .int .i64 (qc)], .bool true]) ∧ ∃ z, w' = w.ext z := by
  have HH := hid h
  have SP := hid (fun w' (h' : FlN w' F) => slotPlace_yes F q s al po si w' h' hq hs hqb h1 h2 h3)
  have hA := h.lay.hA
  have hP := h.lay.hP
  have hS := h.lay.hS
  obtain ⟨hfb, hW, d0, d1, d2, d3, d4, d5, d6, d7, d8, fz⟩ := h.hdr
  have hm : mm ≤ 24 := by rw [← hmm]; exact Nat.mul_le_mul (show al ≤ 8 by omega) (show F.P ≤ 3 by omega)
  have HAC := hid (fun w' => (show (1 : Int) + (al : Int) * (F.P : Int) = ((1 + mm : Nat) : Int) by rw [← hmm]; push_cast; rfl) ▸ aisleCol_any F.A F.S F.P F.D 1 F.c (.slice (some ⟨F.pb, 0, none⟩) F.n F.cap) al w' (by rw [show (al : Int) * (F.P : Int) = (mm : Int) by rw [← hmm]; push_cast; rfl]; omega))
  clear h hq h1 h2 h3 hmm hW fz
  rcases (by omega : si = 0 ∨ si = 1) with rfl | rfl
  · obtain rfl : mm = qc := by omega
    clear hqc
    go_enter Tryf.func36, Tryf.ntmps36
    go_wp2_with (go_at_call 57; refine (SP.out _ (HH.out.al _)).mono ?_; rintro e w' ⟨rfl, z, rfl⟩)
    first | with_reducible refine wp_region_ext2 (by kernel_rfl) (by kernel_rfl) ?_ | refine wp_region_ext (by kernel_rfl) (by kernel_rfl) ?_
    repeat (go_big_quiet_step ((go_at_call 61; exact Calls.ext_of (HAC.out _))))
    refine wpQuiet_nil ?_
    rintro _ ⟨z, rfl⟩
    go_wp2
    refine bodyPost_ret (v := .tuple #[.agg #[.int .i64 (2 + (po : Int)), .int .i64 (1 + (mm : Int) - 1)], .bool true]) (by simp [results, Tryf.results36, go_sem, ↓IntWalk.iteOmega]) rfl ⟨by rw [show (1 + (mm : Int) - 1) = (mm : Int) by omega], ?_⟩
    refine Below.is_ext ?_
    repeat (first | with_reducible exact Below.rf _ | with_reducible exact World.below_ext _ _ | with_reducible refine Below.ex ?_ _ | with_reducible refine Below.al ?_ _ | with_reducible refine Below.setCell ?_ (by simp) _ | with_reducible refine Below.drew ?_)
  · have hq2 : mm + 2 ≤ qc ∧ qc ≤ mm + 2 := by omega
    clear hqc
    go_enter Tryf.func36, Tryf.ntmps36
    go_wp2_with (go_at_call 57; refine (SP.out _ (HH.out.al _)).mono ?_; rintro e w' ⟨rfl, z, rfl⟩)
    first | with_reducible refine wp_region_ext2 (by kernel_rfl) (by kernel_rfl) ?_ | refine wp_region_ext (by kernel_rfl) (by kernel_rfl) ?_
    repeat (go_big_quiet_step ((go_at_call 61; exact Calls.ext_of (HAC.out _))))
    refine wpQuiet_nil ?_
    rintro _ ⟨z, rfl⟩
    go_wp2
    refine bodyPost_ret (v := .tuple #[.agg #[.int .i64 (2 + (po : Int)), .int .i64 (1 + (mm : Int) - 1 + 2)], .bool true]) (by simp [results, Tryf.results36, go_sem, ↓IntWalk.iteOmega]) rfl ⟨by rw [show (1 + (mm : Int) - 1 + 2) = (qc : Int) by omega], ?_⟩
    refine Below.is_ext ?_
    repeat (first | with_reducible exact Below.rf _ | with_reducible exact World.below_ext _ _ | with_reducible refine Below.ex ?_ _ | with_reducible refine Below.al ?_ _ | with_reducible refine Below.setCell ?_ (by simp) _ | with_reducible refine Below.drew ?_)

end Go.Proofs.Qxb6500715aFmt
