/-
  KindOf, Depot, Robots, Parking, Degree, OnCross, Slots, SlotCell, IsBay.
-/
import Derived.Test.Qxb6500715aDoorNbr
import Derived.Test.Qxb6500715aDoorConn
namespace Go.Proofs.Qxb6500715aDoor
open Go.RowKit
set_option linter.unusedSimpArgs false
set_option linter.unusedVariables false

set_option maxHeartbeats 1000000 in
theorem kindOf_any (F : FP) (c : Nat) (w : World) (h : FlN w F) (hc : c < F.N) :
    Calls Tryd.prog 31 #[.pointer (some ⟨F.fb, 0, none⟩), .int .i64 (c)] w fun e w' => e = .returned (.int .u8 (F.kd (F.pl c))) ∧ ∃ z, w' = w.ext z := by
  have HH := hid h
  have hNL : F.N ≤ 384 := by rw [h.num.hN]; exact Nat.le_trans (cnt_le _ _) h.hLb
  have k9 := h.k9
  have i11 := h.num.i11
  have hqc := h.num.qc
  have hq := h.num.lt.2.1
  have hkb := h.hkb
  have h7 := h.hdr.h7
  have hfb := h.hdr.hfb
  have hLb := h.hLb
  obtain ⟨h1, h2, h3, h4, h5, h6⟩ := pl_spec h.plain hc
  have p0 := h.num.pos0 c hc
  have p1 := h.num.pos1 c hc
  rw [Nat.zero_add] at p0 p1
  have hk := h.kds (F.pl c) h1
  obtain ⟨rr, hrr⟩ : ∃ rr, rr = F.pl c / F.W := ⟨_, rfl⟩
  obtain ⟨qq, hqq⟩ : ∃ qq, qq = F.pl c % F.W := ⟨_, rfl⟩
  rw [show plc (fun t => drv (F.kd t)) F.L c / F.W = rr from hrr.symm] at p0
  rw [show plc (fun t => drv (F.kd t)) F.L c % F.W = qq from hqq.symm] at p1
  obtain ⟨rw, hrw⟩ : ∃ x, x = rr * F.W := ⟨_, rfl⟩
  have e1 : (rr : Int) * (F.W : Int) = rw := by rw [hrw]; exact (Int.natCast_mul _ _).symm
  have e2 : rw + qq = F.pl c := by rw [hrw, hrr, hqq]; exact h6
  have hlt : rw + qq < F.L := by rw [e2]; exact h1
  rw [← e2] at hk ⊢
  have hqb : qq < F.W := by rw [hqq]; exact h5
  have hWb := h.hWb
  clear h h1 h2 h3 h4 h5 h6 hrr hqq hrw e2
  go_enter Tryd.func31, Tryd.ntmps31
  go_wp2_with (go_at_call 50; refine (valid_yes F c _ HH.out hc).mono ?_; rintro e w ⟨rfl, rfl⟩)
  first | with_reducible refine wp_region_ext2 (by kernel_rfl) (by kernel_rfl) ?_ | refine wp_region_ext (by kernel_rfl) (by kernel_rfl) ?_
  repeat (go_big_quiet_step ((go_at_call 64; exact Calls.ext_of (index_any F.fb F.W rr _ _ (by (first | omega | (simp only [World.size_ext, World.size_alloc, World.size_setCell, World.size_drew, Array.size_append]; done) | (simp only [World.size_ext, World.size_alloc, World.size_setCell, World.size_drew, Array.size_append]; omega))) (by simp [go_sem, ↓IntWalk.iteOmega]; exact h7) (by omega) (by omega)))))
  refine wpQuiet_nil ?_
  rintro _ ⟨z, rfl⟩
  go_wp2
  go_ret
  exact ⟨rfl, ⟨_, rfl⟩⟩

theorem kindOf_is (F : FP) (c : Nat) (k : Int) (w : World) (h : FlN w F) (hc : c < F.N) (hk : F.kd (F.pl c) = k) :
    Calls Tryd.prog 31 #[.pointer (some ⟨F.fb, 0, none⟩), .int .i64 (c)] w fun e w' => e = .returned (.int .u8 k) ∧ ∃ z, w' = w.ext z := hk ▸ kindOf_any F c w h hc

theorem depot_any (F : FP) (w : World) (h : FlN w F) : Calls Tryd.prog 32 #[.pointer (some ⟨F.fb, 0, none⟩)] w fun e w' => e = .returned (.int .i64 (F.id (F.W + F.c))) ∧ w' = w := by
  have i12 := h.num.i12
  unfold FP.id
  clear h
  go_enter Tryd.func32, Tryd.ntmps32
  go_wp2
  go_ret
  exact ⟨rfl, rfl⟩

theorem robotsF_any (F : FP) (w : World) (h : FlN w F) : Calls Tryd.prog 33 #[.pointer (some ⟨F.fb, 0, none⟩)] w fun e w' => e = .returned (.int .i64 (F.n)) ∧ w' = w := by
  have i13 := h.num.i13
  clear h
  go_enter Tryd.func33, Tryd.ntmps33
  go_wp2
  go_ret
  exact ⟨rfl, rfl⟩

/-- The bay of a robot. -/
def FP.bay (F : FP) (r : Nat) : Nat := F.id (F.px r * F.W + F.py r)

theorem parking_yes (F : FP) (r : Nat) (w : World) (h : FlN w F) (hr : r < F.n) : Calls Tryd.prog 34 #[.pointer (some ⟨F.fb, 0, none⟩), .int .i64 (r)] w fun e w' => e = .returned (.tuple #[.int .i64 (F.bay r), .bool true]) ∧ w' = w := by
  have i13 := h.num.i13
  have hp : w.cell? ⟨F.ab, r, none⟩ = some (.int .i64 (F.bay r)) := h.num.park r hr
  have hn := h.lay.hn
  generalize F.bay r = b at *
  clear h
  go_enter Tryd.func34, Tryd.ntmps34
  go_wp2
  refine bodyPost_ret (v := .tuple #[.int .i64 (b), .bool true]) (by simp [results, Tryd.results34, go_sem, ↓IntWalk.iteOmega]) rfl ⟨rfl, rfl⟩

theorem degree_is (F : FP) (sb cb c la no : Nat) (w : World) (h : FlN w F) (hl : Lnk w F sb cb) (hN : F.N ≤ 384) (hc : c < F.N) (hla : (F.adj c).length = la) (hno : F.no c = no) : Calls Tryd.prog 35 #[.pointer (some ⟨F.fb, 0, none⟩), .int .i64 (c)] w fun e w' => e = .returned (.int .i64 (la)) ∧ ∃ z, w' = w.ext z := by
  have HH := hid h
  have HL := hid hl
  clear h hl
  go_enter Tryd.func35, Tryd.ntmps35
  go_wp2_with (go_at_call 15; refine (neighbors_is F sb cb c la no _ HH.out HL.out hN hc hla hno).mono ?_; rintro e w' ⟨rfl, z, rfl⟩)
  go_ret
  exact ⟨rfl, ⟨_, rfl⟩⟩

theorem onCross_yes (F : FP) (c : Nat) (k : Int) (w : World) (h : FlN w F) (hc : c < F.N) (hk : F.kd (F.pl c) = k) (h56 : k = 5 ∨ k = 6) : Calls Tryd.prog 36 #[.pointer (some ⟨F.fb, 0, none⟩), .int .i64 (c)] w fun e w' => e = .returned (.bool true) ∧ ∃ z, w' = w.ext z := by
  have HH := hid h
  clear h
  rcases h56 with rfl | rfl
  · go_enter Tryd.func36, Tryd.ntmps36
    go_wp2_with (go_at_call 31; refine (kindOf_is F c 5 _ HH.out hc hk).mono ?_; rintro e w' ⟨rfl, z, rfl⟩)
    go_ret
    exact ⟨rfl, ⟨_, rfl⟩⟩
  · go_enter Tryd.func36, Tryd.ntmps36
    go_wp2_with (go_at_call 31; refine (kindOf_is F c 6 _ HH.out hc hk).mono ?_; rintro e w' ⟨rfl, z, rfl⟩)
    go_ret
    exact ⟨rfl, ⟨_, rfl⟩⟩

/-- Is a cell a bay? -/
theorem isBay_any (F : FP) (c : Nat) (b : Bool) (w : World) (h : FlN w F) (hc : c < F.N) (hb : decide (0 ≤ ownr F.kd F.W F.px F.py F.n c) = b) : Calls Tryd.prog 39 #[.pointer (some ⟨F.fb, 0, none⟩), .int .i64 (c)] w fun e w' => e = .returned (.bool b) ∧ w' = w := by
  have HH := hid h
  have i14 := h.num.i14
  have ho := h.num.own c hc
  subst hb
  generalize ownr F.kd F.W F.px F.py F.n c = o at *
  clear h
  go_enter Tryd.func39, Tryd.ntmps39
  go_wp2_with (go_at_call 50; refine (valid_yes F c _ HH.out hc).mono ?_; rintro e w ⟨rfl, rfl⟩)
  go_ret
  exact ⟨rfl, rfl⟩

/-- How many slots. -/
theorem slots_is (F : FP) (q : Nat) (w : World) (h : FlN w F) (hq : q = F.A * F.S * F.D) : Calls Tryd.prog 37 #[.pointer (some ⟨F.fb, 0, none⟩)] w fun e w' => e = .returned (.int .i64 (q)) ∧ ∃ z, w' = w.ext z := by
  obtain ⟨hfb, hW, h0, h1, h2, h3, h4, h5, h6, h7, h8, fz⟩ := h.hdr
  have hA := h.lay.hA
  have hS := h.lay.hS
  have hD := h.lay.hD
  obtain ⟨ax, has⟩ : ∃ x, x = F.A * F.S := ⟨_, rfl⟩
  have e1 : (F.A : Int) * (F.S : Int) = ax := by rw [has]; exact (Int.natCast_mul _ _).symm
  have e2 : (ax : Int) * (F.D : Int) = q := by rw [hq, ← has]; exact (Int.natCast_mul _ _).symm
  have b1 : ax ≤ 96 := by rw [has]; exact Nat.mul_le_mul hA.2 hS.2
  have b2 : q ≤ 192 := by rw [hq, ← has]; exact Nat.mul_le_mul b1 hD.2
  clear h hW fz has hq
  have count : ∀ w', Calls Tryd.prog 65 #[.agg #[.int .i64 (F.A), .int .i64 (F.S), .int .i64 (F.P), .int .i64 (F.D), .int .i64 (1), .int .i64 (F.c), .slice (some ⟨F.pb, 0, none⟩) F.n F.cap]] w' fun e w'' => e = .returned (.int .i64 (q)) ∧ ∃ z, w'' = w'.ext z := fun w' => by
    go_enter Tryd.func65, Tryd.ntmps65
    go_wp2
    go_ret
    exact ⟨rfl, ((Below.rf w').al _).is_ext⟩
  go_enter Tryd.func37, Tryd.ntmps37
  go_wp2_with (go_at_call 65; refine (count _).mono ?_; rintro e w' ⟨rfl, z, rfl⟩)
  go_ret
  exact ⟨rfl, ⟨_, rfl⟩⟩
end Go.Proofs.Qxb6500715aDoor
