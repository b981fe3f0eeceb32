/-
  gatePos, anchor, Dist.
-/
import Derived.Test.Qxb6500715aFmtDist
namespace Go.Proofs.Qxb6500715aFmt
open Go.RowKit
set_option linter.unusedSimpArgs false
set_option linter.unusedVariables false

theorem gatePos_front (F : FP) (q : Nat) (w : World) : Calls Tryf.prog 54 #[.pointer (some ⟨F.fb, 0, none⟩), .agg #[.int .i64 (0), .int .i64 (q)]] w fun e w' => e = .returned (.agg #[.int .i64 (1), .int .i64 (q)]) ∧ ∃ z, w' = w.ext z := by
  go_enter Tryf.func54, Tryf.ntmps54
  go_wp2
  refine bodyPost_ret (v := .agg #[.int .i64 (1), .int .i64 (q)]) (by simp [results, Tryf.results54, go_sem, ↓IntWalk.iteOmega]) rfl ⟨rfl, ?_⟩
  refine Below.is_ext ?_
  repeat (first | with_reducible exact Below.rf _ | with_reducible exact World.below_ext _ _ | with_reducible refine Below.ex ?_ _ | with_reducible refine Below.al ?_ _ | with_reducible refine Below.setCell ?_ (by simp) _ | with_reducible refine Below.drew ?_)

theorem gatePos_back (F : FP) (r q : Nat) (w : World) (h : FlN w F) (hr : 1 ≤ r) : Calls Tryf.prog 54 #[.pointer (some ⟨F.fb, 0, none⟩), .agg #[.int .i64 (r), .int .i64 (q)]] w fun e w' => e = .returned (.agg #[.int .i64 ((F.S : Int) + 2), .int .i64 (q)]) ∧ ∃ z, w' = w.ext z := by
  obtain ⟨hfb, hW, h0, h1, h2, h3, h4, h5, h6, h7, h8, fz⟩ := h.hdr
  have hS := h.lay.hS
  have d1 : ((r : Int) == 0) = false := by simp; omega
  clear h hW fz
  go_enter Tryf.func54, Tryf.ntmps54
  go_wp2
  first | with_reducible refine wp_region_tail_ext2 8 (by kernel_rfl) (by kernel_rfl) ?_ | refine wp_region_tail_ext 8 (by kernel_rfl) (by kernel_rfl) ?_
  simp only [List.take_succ_cons, List.take_zero, List.drop_succ_cons, List.drop_zero]
  repeat (go_big_quiet_step ((go_at_call 71; exact Calls.ext_of (backRow_any F.A F.S F.P F.D 1 F.c (.slice (some ⟨F.pb, 0, none⟩) F.n F.cap) _ (by omega)))))
  refine wpQuiet_nil ?_
  rintro _ ⟨z, rfl⟩
  go_wp2
  refine bodyPost_ret (v := .agg #[.int .i64 ((F.S : Int) + 2), .int .i64 (q)]) (by simp [results, Tryf.results54, go_sem, ↓IntWalk.iteOmega]) rfl ⟨rfl, ?_⟩
  refine Below.is_ext ?_
  repeat (first | with_reducible exact Below.rf _ | with_reducible exact World.below_ext _ _ | with_reducible refine Below.ex ?_ _ | with_reducible refine Below.al ?_ _ | with_reducible refine Below.setCell ?_ (by simp) _ | with_reducible refine Below.drew ?_)

set_option maxHeartbeats 1000000 in
theorem anchor_any (F : FP) (c : Nat) (w : World) (h : FlN w F) (hc : c < F.N) :
    Calls Tryf.prog 63 #[.pointer (some ⟨F.fb, 0, none⟩), .int .i64 (c)] w fun e w' => e = .returned (.tuple #[.agg #[.int .i64 (F.ar c), .int .i64 (F.col c)], .int .i64 (F.ex c)]) ∧ ∃ z, w' = w.ext z := by
  have HH := hid h
  have hp := h.pln
  have hNL : F.N ≤ 384 := by rw [h.num.hN]; exact Nat.le_trans (cnt_le _ _) h.hLb
  have i11 := h.num.i11
  have i14 := h.num.i14
  have hq := h.num.lt.2.1
  have hqc := h.num.qc
  have hob := h.num.lt.2.2.2
  have hfb := h.hdr.hfb
  have ho := h.num.own c hc
  have p0 := h.num.pos0 c hc
  have p1 := h.num.pos1 c hc
  rw [Nat.zero_add] at p0 p1
  rw [show plc (fun t => drv (F.kd t)) F.L c / F.W = F.row c from rfl] at p0
  rw [show plc (fun t => drv (F.kd t)) F.L c % F.W = F.col c from rfl] at p1
  have hob2 := own_bay hp hc
  obtain ⟨c1, c2, c3, c4, c5⟩ := cell_on hp hc
  unfold FP.ar FP.ex
  obtain ⟨o, hoe⟩ : ∃ o, o = ownr F.kd F.W F.px F.py F.n c := ⟨_, rfl⟩
  rw [← hoe] at ho hob2
  have hS := h.lay.hS
  have hWb := h.hWb
  generalize F.row c = rr at *
  generalize F.col c = qq at *
  by_cases hB : F.isB c
  · rw [if_pos hB, if_pos hB]
    have ho0 : 0 ≤ o := by
      rw [decide_eq_true (show F.kd (F.pl c) = 7 from hB)] at hob2
      exact of_decide_eq_true hob2
    have hro : rr = 0 ∨ rr = F.S + 3 := by
      rcases c5 with h | h
      · exact h.2
      · exact absurd hB h.1
    clear h hob2 hoe c3 c4 c5 hB
    by_cases hr : rr = 0
    · subst hr
      rw [if_pos rfl]
      clear hro
      go_enter Tryf.func63, Tryf.ntmps63
      go_wp2_with (go_at_call 54; refine (gatePos_front F qq _).mono ?_; rintro e w' ⟨rfl, z, rfl⟩)
      refine bodyPost_ret (v := .tuple #[.agg #[.int .i64 (1), .int .i64 (qq)], .int .i64 (1)]) (by simp [results, Tryf.results63, go_sem, ↓IntWalk.iteOmega]) rfl ⟨rfl, ?_⟩
      refine Below.is_ext ?_
      repeat (first | with_reducible exact Below.rf _ | with_reducible exact World.below_ext _ _ | with_reducible refine Below.ex ?_ _ | with_reducible refine Below.al ?_ _ | with_reducible refine Below.setCell ?_ (by simp) _ | with_reducible refine Below.drew ?_)
    · rw [if_neg hr]
      have hr1 : 1 ≤ rr := by omega
      clear hr hro
      go_enter Tryf.func63, Tryf.ntmps63
      go_wp2_with (go_at_call 54; refine (gatePos_back F rr qq _ (HH.out.below (by (repeat (first | with_reducible exact Below.rf _ | with_reducible exact World.below_ext _ _ | with_reducible refine Below.ex ?_ _ | with_reducible refine Below.al ?_ _ | with_reducible refine Below.setCell ?_ (by simp) _ | with_reducible refine Below.drew ?_)))) hr1).mono ?_; rintro e w' ⟨rfl, z, rfl⟩)
      refine bodyPost_ret (v := .tuple #[.agg #[.int .i64 ((F.S : Int) + 2), .int .i64 (qq)], .int .i64 (1)]) (by simp [results, Tryf.results63, go_sem, ↓IntWalk.iteOmega]) rfl ⟨rfl, ?_⟩
      refine Below.is_ext ?_
      repeat (first | with_reducible exact Below.rf _ | with_reducible exact World.below_ext _ _ | with_reducible refine Below.ex ?_ _ | with_reducible refine Below.al ?_ _ | with_reducible refine Below.setCell ?_ (by simp) _ | with_reducible refine Below.drew ?_)
  · rw [if_neg hB, if_neg hB]
    have ho0 : o < 0 := by
      rw [decide_eq_false (show ¬ F.kd (F.pl c) = 7 from hB)] at hob2
      have := of_decide_eq_false hob2
      omega
    clear h hob2 hoe c3 c4 c5 hB
    go_enter Tryf.func63, Tryf.ntmps63
    go_wp2
    refine bodyPost_ret (v := .tuple #[.agg #[.int .i64 (rr), .int .i64 (qq)], .int .i64 (0)]) (by simp [results, Tryf.results63, go_sem, ↓IntWalk.iteOmega]) rfl ⟨rfl, ?_⟩
    refine Below.is_ext ?_
    repeat (first | with_reducible exact Below.rf _ | with_reducible exact World.below_ext _ _ | with_reducible refine Below.ex ?_ _ | with_reducible refine Below.al ?_ _ | with_reducible refine Below.setCell ?_ (by simp) _ | with_reducible refine Below.drew ?_)

set_option maxHeartbeats 1000000 in
theorem dist_any (F : FP) (a b : Nat) (w : World) (h : FlN w F) (ha : a < F.N) (hb : b < F.N) :
    Calls Tryf.prog 40 #[.pointer (some ⟨F.fb, 0, none⟩), .int .i64 (a), .int .i64 (b)] w fun e w' => e = .returned (.int .i64 (F.dst a b)) ∧ ∃ z, w' = w.ext z := by
  have HH := hid h
  have hp := h.pln
  have oa := anchor_on hp ha
  have ob := anchor_on hp hb
  have hA := h.lay.hA
  have hP := h.lay.hP
  have hS := h.lay.hS
  have hadb : ad F.A F.P F.S (F.ar a) (F.col a) (F.ar b) (F.col b) ≤ 1000 := by
    have hw : (F.A - 1) * F.P ≤ 21 := Nat.mul_le_mul (show F.A - 1 ≤ 7 by omega) (show F.P ≤ 3 by omega)
    have k1 := oa.1
    have k2 := ob.1
    obtain ⟨x, hx, e⟩ := cX_at (c2 := F.col b) hp.P2 hA.1 oa.1
    have := isAc_lt hx
    unfold ad; rw [e]; unfold nab
    have o1 := oa.2
    have o2 := ob.2
    split
    · omega
    · split
      · split <;> omega
      · split <;> omega
  have cAd := fun w' => aisleDist_any F.A F.P F.S F.D 1 F.c (.slice (some ⟨F.pb, 0, none⟩) F.n F.cap) (F.ar a) (F.col a) (F.ar b) (F.col b) w' hA (by omega) hS oa ob
  have cA := fun w' (h' : FlN w' F) => anchor_any F a w' h' ha
  have cB := fun w' (h' : FlN w' F) => anchor_any F b w' h' hb
  have CAD := hid cAd
  have CA := hid cA
  have CB := hid cB
  obtain ⟨hfb, hW, h0, h1, h2, h3, h4, h5, h6, h7, h8, fz⟩ := h.hdr
  have ea : F.ex a ≤ 1 := by unfold FP.ex; split <;> omega
  have eb : F.ex b ≤ 1 := by unfold FP.ex; split <;> omega
  unfold FP.dst
  by_cases hab : a = b
  · subst hab
    rw [if_pos rfl]
    clear h hW fz cAd cA cB oa ob hp hadb
    go_enter Tryf.func40, Tryf.ntmps40
    go_wp2_with (go_at_call 20; refine (valid_yes F a _ HH.out ha).mono ?_; rintro e w ⟨rfl, rfl⟩)
    go_ret
    exact ⟨rfl, (Below.rf _).is_ext⟩
  · rw [if_neg hab]
    have d1 : ((a : Int) == (b : Int)) = false := by simp; omega
    generalize F.ar a = ra at *
    generalize F.ar b = rb at *
    generalize F.col a = qa at *
    generalize F.col b = qb at *
    generalize F.ex a = xa at *
    generalize F.ex b = xb at *
    generalize ad F.A F.P F.S ra qa rb qb = dd at *
    clear h hW fz cAd cA cB oa ob hp hab
    go_enter Tryf.func40, Tryf.ntmps40
    go_wp2_with (first | (go_at_call 20; (first | with_reducible refine (valid_yes F a _ HH.out ha).mono ?_ | with_reducible refine (valid_yes F b _ HH.out hb).mono ?_); rintro e w ⟨rfl, rfl⟩) | (go_at_call 63; (first | with_reducible refine (CA.out _ HH.out).mono ?_ | with_reducible refine (CB.out _ (HH.out.below (by (repeat (first | with_reducible exact Below.rf _ | with_reducible exact World.below_ext _ _ | with_reducible refine Below.ex ?_ _ | with_reducible refine Below.al ?_ _ | with_reducible refine Below.setCell ?_ (by simp) _ | with_reducible refine Below.drew ?_))))).mono ?_); rintro e w' ⟨rfl, z, rfl⟩))
    first | with_reducible refine wp_region_ext2 (by kernel_rfl) (by kernel_rfl) ?_ | refine wp_region_ext (by kernel_rfl) (by kernel_rfl) ?_
    repeat (go_big_quiet_step ((go_at_call 64; exact Calls.ext_of (CAD.out _))))
    refine wpQuiet_nil ?_
    rintro _ ⟨z, rfl⟩
    go_wp2
    go_ret
    refine ⟨ret_int (by omega), ?_⟩
    refine Below.is_ext ?_
    repeat (first | with_reducible exact Below.rf _ | with_reducible exact World.below_ext _ _ | with_reducible refine Below.ex ?_ _ | with_reducible refine Below.al ?_ _ | with_reducible refine Below.setCell ?_ (by simp) _ | with_reducible refine Below.drew ?_)
end Go.Proofs.Qxb6500715aFmt
