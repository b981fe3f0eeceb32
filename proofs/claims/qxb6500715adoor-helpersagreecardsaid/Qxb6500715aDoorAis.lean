/-
  AisleAt, AisleOf, aisleEnd, AisleFront, AisleBack, AisleLength, OnCross: the walks.
-/
import Derived.Test.Qxb6500715aDoorPref
import Derived.Test.Qxb6500715aDoorDir
namespace Go.Proofs.Qxb6500715aDoor
open Go.RowKit
set_option linter.unusedSimpArgs false
set_option linter.unusedVariables false


theorem onCross_is (F : FP) (c : Nat) (k : Int) (x : Bool) (w : World) (h : FlN w F) (hc : c < F.N) (hk : F.kd (F.pl c) = k) (hx : decide (k = 5 ∨ k = 6) = x) : Calls Tryd.prog 36 #[.pointer (some ⟨F.fb, 0, none⟩), .int .i64 (c)] w fun e w' => e = .returned (.bool x) ∧ ∃ z, w' = w.ext z := by
  by_cases h56 : k = 5 ∨ k = 6
  · rw [decide_eq_true h56] at hx; subst hx
    exact onCross_yes F c k w h hc hk h56
  · rw [decide_eq_false h56] at hx; subst hx
    have HH := hid h
    have HK := hid hk
    have b1 : (k == 5) = false := by simp; omega
    have b2 : (k == 6) = false := by simp; omega
    clear h hk h56
    go_enter Tryd.func36, Tryd.ntmps36
    go_wp2_with (go_at_call 31; refine (kindOf_is F c k _ HH.out hc HK.out).mono ?_; rintro e w' ⟨rfl, z, rfl⟩)
    go_ret
    exact ⟨rfl, ⟨_, rfl⟩⟩

set_option maxHeartbeats 1000000 in
theorem aisleAt_yes (F : FP) (al : Nat) (q qq : Nat) (w : World) (hP : 2 ≤ F.P ∧ F.P ≤ 3) (hA : F.A ≤ 8) (hal : al < F.A) (hq : q = 1 + qq) (hqq : qq = al * F.P) :
    Calls Tryd.prog 101 #[.agg #[.int .i64 (F.A), .int .i64 (F.S), .int .i64 (F.P), .int .i64 (F.D), .int .i64 (1), .int .i64 (F.c), .slice (some ⟨F.pb, 0, none⟩) F.n F.cap], .int .i64 (q)] w fun e w' => e = .returned (.tuple #[.int .i64 (al), .bool true]) ∧ ∃ z, w' = w.ext z := by
  have hb : qq ≤ 24 := by rw [hqq]; exact Nat.mul_le_mul (show al ≤ 8 by omega) hP.2
  have e1 : ((q : Int) - 1).tmod (F.P : Int) = 0 := by
    rw [show (q : Int) - 1 = ((al * F.P : Nat) : Int) by omega, ← Int.ofNat_tmod, Nat.mul_mod_left]; rfl
  have e2 : ((q : Int) - 1).tdiv (F.P : Int) = al := by
    rw [show (q : Int) - 1 = ((al * F.P : Nat) : Int) by omega, ← Int.ofNat_tdiv, Nat.mul_div_cancel _ (by omega)]
  have p0 : ((F.P : Int) == 0) = false := by simp; omega
  have q1 : 1 ≤ q ∧ q ≤ 25 := by omega
  have q2 : decide ((q : Int) - 1 < 0) = false := by simp; omega
  have q3 : decide ((al : Int) < F.A) = true := by simp; omega
  clear hq hqq
  go_enter Tryd.func101, Tryd.ntmps101
  go_wp2
  first | with_reducible refine wp_region_ext2 (by kernel_rfl) (by kernel_rfl) ?_ | refine wp_region_ext (by kernel_rfl) (by kernel_rfl) ?_
  repeat (go_big_quiet_step (fail))
  refine wpQuiet_nil ?_
  rintro _ ⟨z, rfl⟩
  go_wp2
  go_ret2
  refine ⟨rfl, ?_⟩
  refine Below.is_ext ?_
  repeat (first | with_reducible exact Below.rf _ | with_reducible exact World.below_ext _ _ | with_reducible refine Below.ex ?_ _ | with_reducible refine Below.al ?_ _ | with_reducible refine Below.setCell ?_ (by simp) _ | with_reducible refine Below.drew ?_)

theorem aisleOf_no (F : FP) (c : Nat) (k : Int) (w : World) (h : FlN w F) (hc : c < F.N) (hk : F.kd (F.pl c) = k) (h4 : k ≠ 4) : Calls Tryd.prog 60 #[.pointer (some ⟨F.fb, 0, none⟩), .int .i64 (c)] w fun e w' => e = .returned (.tuple #[.int .i64 (0), .int .i64 (0), .bool false]) ∧ ∃ z, w' = w.ext z := by
  have HH := hid h
  have HK := hid hk
  have b1 : (k == 4) = false := by simp; omega
  clear h hk h4
  go_enter Tryd.func60, Tryd.ntmps60
  go_wp2_with (go_at_call 31; refine (kindOf_is F c k _ HH.out hc HK.out).mono ?_; rintro e w' ⟨rfl, z, rfl⟩)
  refine bodyPost_ret (v := .tuple #[.int .i64 (0), .int .i64 (0), .bool false]) (by simp [results, Tryd.results60, go_sem, ↓IntWalk.iteOmega]) rfl ⟨rfl, ?_⟩
  refine Below.is_ext ?_
  repeat (first | with_reducible exact Below.rf _ | with_reducible exact World.below_ext _ _ | with_reducible refine Below.ex ?_ _ | with_reducible refine Below.al ?_ _ | with_reducible refine Below.setCell ?_ (by simp) _ | with_reducible refine Below.drew ?_)

set_option maxRecDepth 20000 in
set_option maxHeartbeats 1000000 in
theorem aisleOf_yes (F : FP) (c al rr : Nat) (w : World) (h : FlN w F) (hc : c < F.N) (hk : F.kd (F.pl c) = 4) (hal : al < F.A) (hq : F.col c = 1 + al * F.P) (hr : F.row c = rr) :
    Calls Tryd.prog 60 #[.pointer (some ⟨F.fb, 0, none⟩), .int .i64 (c)] w fun e w' => e = .returned (.tuple #[.int .i64 (al), .int .i64 ((rr : Int) - 2), .bool true]) ∧ ∃ z, w' = w.ext z := by
  have HH := hid h
  have HK := hid hk
  have hp := h.pln
  have hP := h.lay.hP
  have hA := h.lay.hA
  have hS := h.lay.hS
  have i11 := h.num.i11
  have hqc := h.num.qc
  have hql := h.num.lt.2.1
  obtain ⟨hfb, hW, h0, h1, h2, h3, h4, h5, h6, h7, h8, fz⟩ := h.hdr
  have p0 := h.num.pos0 c hc
  have p1 := h.num.pos1 c hc
  rw [Nat.zero_add] at p0 p1
  rw [show plc (fun t => drv (F.kd t)) F.L c / F.W = F.row c from rfl, hr] at p0
  rw [show plc (fun t => drv (F.kd t)) F.L c % F.W = F.col c from rfl] at p1
  have hrb := (cell_on hp hc).1
  have hcb := (cell_on hp hc).2.1
  have hWb := h.hWb
  rw [hr] at hrb
  obtain ⟨q, hqe⟩ : ∃ q, F.col c = q := ⟨_, rfl⟩
  rw [hqe] at p1 hq hcb
  have HAT := hid (fun w' => aisleAt_yes F al q (al * F.P) w' (by omega) hA.2 hal hq rfl)
  clear h hk hq hr hqe hp fz hW
  go_enter Tryd.func60, Tryd.ntmps60
  go_wp2_with (go_at_call 31; refine (kindOf_is F c 4 _ HH.out hc HK.out).mono ?_; rintro e w' ⟨rfl, z, rfl⟩)
  first | with_reducible refine wp_region_ext2 (by kernel_rfl) (by kernel_rfl) ?_ | refine wp_region_ext (by kernel_rfl) (by kernel_rfl) ?_
  repeat (go_big_quiet_step ((go_at_call 101; exact Calls.ext_of (HAT.out _))))
  refine wpQuiet_nil ?_
  rintro _ ⟨z, rfl⟩
  go_wp2
  first | with_reducible refine wp_region_ext2 (by kernel_rfl) (by kernel_rfl) ?_ | refine wp_region_ext (by kernel_rfl) (by kernel_rfl) ?_
  repeat (go_big_quiet_step (fail))
  refine wpQuiet_nil ?_
  rintro _ ⟨z, rfl⟩
  go_wp2
  refine bodyPost_ret (v := .tuple #[.int .i64 (al), .int .i64 ((rr : Int) - 2), .bool true]) (by simp [results, Tryd.results60, go_sem, ↓IntWalk.iteOmega]) rfl ⟨rfl, ?_⟩
  refine Below.is_ext ?_
  repeat (first | with_reducible exact Below.rf _ | with_reducible exact World.below_ext _ _ | with_reducible refine Below.ex ?_ _ | with_reducible refine Below.al ?_ _ | with_reducible refine Below.setCell ?_ (by simp) _ | with_reducible refine Below.drew ?_)

set_option maxRecDepth 20000 in
set_option maxHeartbeats 1000000 in
theorem aisleEnd_any (F : FP) (al r : Nat) (w : World) (h : FlN w F) (hal : al < F.A) (hr : isX F.S r) :
    Calls Tryd.prog 102 #[.pointer (some ⟨F.fb, 0, none⟩), .int .i64 (al), .int .i64 (r)] w fun e w' => e = .returned (.tuple #[.int .i64 (F.idp (r, 1 + al * F.P)), .bool true]) ∧ ∃ z, w' = w.ext z := by
  have hp := h.pln
  have hP := h.lay.hP
  have hA := h.lay.hA
  have hS := h.lay.hS
  obtain ⟨hfb, hW, h0, h1, h2, h3, h4, h5, h6, h7, h8, fz⟩ := h.hdr
  have hlt := isAc_lt (A := F.A) (P := F.P) (x := 1 + al * F.P) ⟨al, hal, rfl⟩
  have hd : F.drv r (1 + al * F.P) := onA_drv hp (x_on hp hr (by rw [hp.hW]; omega))
  obtain ⟨hixl, did⟩ := ids_cell h hd
  have i10 := h.num.i10
  have hil := h.num.lt.1
  have hLb := h.hLb
  have hm : al * F.P ≤ 24 := Nat.mul_le_mul (show al ≤ 8 by omega) (show F.P ≤ 3 by omega)
  obtain ⟨mm, hmm⟩ : ∃ mm, al * F.P = mm := ⟨_, rfl⟩
  have HAC := hid (fun w' => (show (1 : Int) + (al : Int) * (F.P : Int) = ((1 + mm : Nat) : Int) by rw [← hmm]; push_cast; rfl) ▸ aisleCol_any F.A F.S F.P F.D 1 F.c (.slice (some ⟨F.pb, 0, none⟩) F.n F.cap) al w' (by rw [show (al : Int) * (F.P : Int) = (mm : Int) by rw [← hmm]; push_cast; rfl]; omega))
  unfold FP.idp
  simp only
  rw [hmm] at did hixl hm ⊢
  obtain ⟨ix, hix⟩ : ∃ ix, r * F.W + (1 + mm) = ix := ⟨_, rfl⟩
  rw [hix] at did hixl ⊢
  obtain ⟨nid, hnid⟩ : ∃ nid, F.id ix = nid := ⟨_, rfl⟩
  rw [hnid] at did ⊢
  have HIX := hid hix
  have hrb : r ≤ 100 := by omega
  clear h hd hix hnid hp fz hW hmm hr hlt
  go_enter Tryd.func102, Tryd.ntmps102
  go_wp2
  first | with_reducible refine wp_region_ext2 (by kernel_rfl) (by kernel_rfl) ?_ | refine wp_region_ext (by kernel_rfl) (by kernel_rfl) ?_
  repeat (go_big_quiet_step (first | (go_at_call 89; exact Calls.ext_of (HAC.out _)) | (go_at_call 64; exact Calls.ext_of (index_is F r (1 + mm) ix _ (by (first | omega | (simp only [World.size_ext, World.size_alloc, World.size_setCell, World.size_drew, Array.size_append]; done) | (simp only [World.size_ext, World.size_alloc, World.size_setCell, World.size_drew, Array.size_append]; omega))) (by simp [go_sem, ↓IntWalk.iteOmega]; exact h7) HIX.out (by omega)))))
  refine wpQuiet_nil ?_
  rintro _ ⟨z, rfl⟩
  go_wp2
  go_ret2
  refine ⟨rfl, ?_⟩
  refine Below.is_ext ?_
  repeat (first | with_reducible exact Below.rf _ | with_reducible exact World.below_ext _ _ | with_reducible refine Below.ex ?_ _ | with_reducible refine Below.al ?_ _ | with_reducible refine Below.setCell ?_ (by simp) _ | with_reducible refine Below.drew ?_)

theorem aisleFront_any (F : FP) (al : Nat) (w : World) (h : FlN w F) (hal : al < F.A) :
    Calls Tryd.prog 61 #[.pointer (some ⟨F.fb, 0, none⟩), .int .i64 (al)] w fun e w' => e = .returned (.tuple #[.int .i64 (F.idp (1, 1 + al * F.P)), .bool true]) ∧ ∃ z, w' = w.ext z := by
  have HE := hid (aisleEnd_any F al 1 w h hal (Or.inl rfl))
  generalize F.idp (1, 1 + al * F.P) = x at *
  clear h
  go_enter Tryd.func61, Tryd.ntmps61
  go_wp2_with (go_at_call 102; refine HE.out.mono ?_; rintro e w' ⟨rfl, z, rfl⟩)
  go_ret2
  exact ⟨rfl, ⟨_, rfl⟩⟩

set_option maxHeartbeats 1000000 in
theorem aisleBack_any (F : FP) (al : Nat) (w : World) (h : FlN w F) (hal : al < F.A) :
    Calls Tryd.prog 62 #[.pointer (some ⟨F.fb, 0, none⟩), .int .i64 (al)] w fun e w' => e = .returned (.tuple #[.int .i64 (F.idp (F.S + 2, 1 + al * F.P)), .bool true]) ∧ ∃ z, w' = w.ext z := by
  have HE := hid (fun w' (h' : FlN w' F) => (show ((F.S + 2 : Nat) : Int) = (F.S : Int) + 2 by omega) ▸ aisleEnd_any F al (F.S + 2) w' h' hal (Or.inr rfl))
  have HH := hid h
  obtain ⟨hfb, hW, h0, h1, h2, h3, h4, h5, h6, h7, h8, fz⟩ := h.hdr
  have hS := h.lay.hS
  generalize F.idp (F.S + 2, 1 + al * F.P) = x at *
  clear h hW fz
  go_enter Tryd.func62, Tryd.ntmps62
  go_wp2_with (first | (go_at_call 94; refine (backRow_any F.A F.S F.P F.D 1 F.c _ _ (by omega)).mono ?_; rintro e w' ⟨rfl, z, rfl⟩) | (go_at_call 102; refine (HE.out _ (HH.out.ex _)).mono ?_; rintro e w' ⟨rfl, z2, rfl⟩))
  go_ret2
  refine ⟨rfl, ?_⟩
  refine Below.is_ext ?_
  repeat (first | with_reducible exact Below.rf _ | with_reducible exact World.below_ext _ _ | with_reducible refine Below.ex ?_ _ | with_reducible refine Below.al ?_ _ | with_reducible refine Below.setCell ?_ (by simp) _ | with_reducible refine Below.drew ?_)

theorem aisleLength_any (F : FP) (w : World) (h : FlN w F) :
    Calls Tryd.prog 63 #[.pointer (some ⟨F.fb, 0, none⟩)] w fun e w' => e = .returned (.int .i64 ((F.S : Int) + 1)) ∧ ∃ z, w' = w.ext z := by
  obtain ⟨hfb, hW, h0, h1, h2, h3, h4, h5, h6, h7, h8, fz⟩ := h.hdr
  have hS := h.lay.hS
  clear h hW fz
  go_enter Tryd.func63, Tryd.ntmps63
  go_wp2_with (go_at_call 94; refine (backRow_any F.A F.S F.P F.D 1 F.c _ _ (by omega)).mono ?_; rintro e w' ⟨rfl, z, rfl⟩)
  go_ret
  exact ⟨ret_int (by omega), ⟨_, rfl⟩⟩
end Go.Proofs.Qxb6500715aDoor
