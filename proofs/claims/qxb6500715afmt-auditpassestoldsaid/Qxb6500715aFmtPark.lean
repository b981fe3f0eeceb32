/-
  KindOf, Depot, Robots, Parking, Degree, OnCross, Slots, SlotCell, IsBay.
-/
import Derived.Test.Qxb6500715aFmtNbr
import Derived.Test.Qxb6500715aFmtConn
namespace Go.Proofs.Qxb6500715aFmt
open Go.RowKit
set_option linter.unusedSimpArgs false
set_option linter.unusedVariables false

set_option maxHeartbeats 1000000 in
theorem kindOf_any (F : FP) (c : Nat) (w : World) (h : FlN w F) (hc : c < F.N) :
    Calls Tryf.prog 22 #[.pointer (some ⟨F.fb, 0, none⟩), .int .i64 (c)] w fun e w' => e = .returned (.int .u8 (F.kd (F.pl c))) ∧ ∃ z, w' = w.ext z := by
  have HH := hid h
  have hNL : F.N ≤ 384 := by rw [h.num.hN]; exact Nat.le_trans (cnt_le _ _) h.hLb
  have k9 := h.k9
  have i11 := h.num.i11
  have hqc := h.num.qc
  have hq := h.num.lt.2.1
  have hkb := h.hkb
  have h7 := h.hdr.h7
  have hfb := h.hdr.hfb
  have hLb := h.hLb
  obtain ⟨h1, h2, h3, h4, h5, h6⟩ := pl_spec h.plain hc
  have p0 := h.num.pos0 c hc
  have p1 := h.num.pos1 c hc
  rw [Nat.zero_add] at p0 p1
  have hk := h.kds (F.pl c) h1
  obtain ⟨rr, hrr⟩ : ∃ rr, rr = F.pl c / F.W := ⟨_, rfl⟩
  obtain ⟨qq, hqq⟩ : ∃ qq, qq = F.pl c % F.W := ⟨_, rfl⟩
  rw [show plc (fun t => drv (F.kd t)) F.L c / F.W = rr from hrr.symm] at p0
  rw [show plc (fun t => drv (F.kd t)) F.L c % F.W = qq from hqq.symm] at p1
  obtain ⟨rw, hrw⟩ : ∃ x, x = rr * F.W := ⟨_, rfl⟩
  have e1 : (rr : Int) * (F.W : Int) = rw := by rw [hrw]; exact (Int.natCast_mul _ _).symm
  have e2 : rw + qq = F.pl c := by rw [hrw, hrr, hqq]; exact h6
  have hlt : rw + qq < F.L := by rw [e2]; exact h1
  rw [← e2] at hk ⊢
  have hqb : qq < F.W := by rw [hqq]; exact h5
  have hWb := h.hWb
  clear h h1 h2 h3 h4 h5 h6 hrr hqq hrw e2
  go_enter Tryf.func22, Tryf.ntmps22
  go_wp2_with (go_at_call 20; refine (valid_yes F c _ HH.out hc).mono ?_; rintro e w ⟨rfl, rfl⟩)
  first | with_reducible refine wp_region_ext2 (by kernel_rfl) (by kernel_rfl) ?_ | refine wp_region_ext (by kernel_rfl) (by kernel_rfl) ?_
  repeat (go_big_quiet_step ((go_at_call 21; exact Calls.ext_of (index_any F.fb F.W rr _ _ (by (first | omega | (simp only [World.size_ext, World.size_alloc, World.size_setCell, World.size_drew, Array.size_append]; done) | (simp only [World.size_ext, World.size_alloc, World.size_setCell, World.size_drew, Array.size_append]; omega))) (by simp [go_sem, ↓IntWalk.iteOmega]; exact h7) (by omega) (by omega)))))
  refine wpQuiet_nil ?_
  rintro _ ⟨z, rfl⟩
  go_wp2
  go_ret
  exact ⟨rfl, ⟨_, rfl⟩⟩

theorem kindOf_is (F : FP) (c : Nat) (k : Int) (w : World) (h : FlN w F) (hc : c < F.N) (hk : F.kd (F.pl c) = k) :
    Calls Tryf.prog 22 #[.pointer (some ⟨F.fb, 0, none⟩), .int .i64 (c)] w fun e w' => e = .returned (.int .u8 k) ∧ ∃ z, w' = w.ext z := hk ▸ kindOf_any F c w h hc

/-- The bay of a robot. -/
def FP.bay (F : FP) (r : Nat) : Nat := F.id (F.px r * F.W + F.py r)

theorem onCross_yes (F : FP) (c : Nat) (k : Int) (w : World) (h : FlN w F) (hc : c < F.N) (hk : F.kd (F.pl c) = k) (h56 : k = 5 ∨ k = 6) : Calls Tryf.prog 28 #[.pointer (some ⟨F.fb, 0, none⟩), .int .i64 (c)] w fun e w' => e = .returned (.bool true) ∧ ∃ z, w' = w.ext z := by
  have HH := hid h
  clear h
  rcases h56 with rfl | rfl
  · go_enter Tryf.func28, Tryf.ntmps28
    go_wp2_with (go_at_call 22; refine (kindOf_is F c 5 _ HH.out hc hk).mono ?_; rintro e w' ⟨rfl, z, rfl⟩)
    go_ret
    exact ⟨rfl, ⟨_, rfl⟩⟩
  · go_enter Tryf.func28, Tryf.ntmps28
    go_wp2_with (go_at_call 22; refine (kindOf_is F c 6 _ HH.out hc hk).mono ?_; rintro e w' ⟨rfl, z, rfl⟩)
    go_ret
    exact ⟨rfl, ⟨_, rfl⟩⟩

/-- Is a cell a bay? -/
theorem isBay_any (F : FP) (c : Nat) (b : Bool) (w : World) (h : FlN w F) (hc : c < F.N) (hb : decide (0 ≤ ownr F.kd F.W F.px F.py F.n c) = b) : Calls Tryf.prog 32 #[.pointer (some ⟨F.fb, 0, none⟩), .int .i64 (c)] w fun e w' => e = .returned (.bool b) ∧ w' = w := by
  have HH := hid h
  have i14 := h.num.i14
  have ho := h.num.own c hc
  subst hb
  generalize ownr F.kd F.W F.px F.py F.n c = o at *
  clear h
  go_enter Tryf.func32, Tryf.ntmps32
  go_wp2_with (go_at_call 20; refine (valid_yes F c _ HH.out hc).mono ?_; rintro e w ⟨rfl, rfl⟩)
  go_ret
  exact ⟨rfl, rfl⟩

/-- How many slots. -/
theorem slots_is (F : FP) (q : Nat) (w : World) (h : FlN w F) (hq : q = F.A * F.S * F.D) : Calls Tryf.prog 56 #[.pointer (some ⟨F.fb, 0, none⟩)] w fun e w' => e = .returned (.int .i64 (q)) ∧ ∃ z, w' = w.ext z := by
  obtain ⟨hfb, hW, h0, h1, h2, h3, h4, h5, h6, h7, h8, fz⟩ := h.hdr
  have hA := h.lay.hA
  have hS := h.lay.hS
  have hD := h.lay.hD
  obtain ⟨ax, has⟩ : ∃ x, x = F.A * F.S := ⟨_, rfl⟩
  have e1 : (F.A : Int) * (F.S : Int) = ax := by rw [has]; exact (Int.natCast_mul _ _).symm
  have e2 : (ax : Int) * (F.D : Int) = q := by rw [hq, ← has]; exact (Int.natCast_mul _ _).symm
  have b1 : ax ≤ 96 := by rw [has]; exact Nat.mul_le_mul hA.2 hS.2
  have b2 : q ≤ 192 := by rw [hq, ← has]; exact Nat.mul_le_mul b1 hD.2
  clear h hW fz has hq
  have count : ∀ w', Calls Tryf.prog 76 #[.agg #[.int .i64 (F.A), .int .i64 (F.S), .int .i64 (F.P), .int .i64 (F.D), .int .i64 (1), .int .i64 (F.c), .slice (some ⟨F.pb, 0, none⟩) F.n F.cap]] w' fun e w'' => e = .returned (.int .i64 (q)) ∧ ∃ z, w'' = w'.ext z := fun w' => by
    go_enter Tryf.func76, Tryf.ntmps76
    go_wp2
    go_ret
    exact ⟨rfl, ((Below.rf w').al _).is_ext⟩
  go_enter Tryf.func56, Tryf.ntmps56
  go_wp2_with (go_at_call 76; refine (count _).mono ?_; rintro e w' ⟨rfl, z, rfl⟩)
  go_ret
  exact ⟨rfl, ⟨_, rfl⟩⟩
end Go.Proofs.Qxb6500715aFmt
