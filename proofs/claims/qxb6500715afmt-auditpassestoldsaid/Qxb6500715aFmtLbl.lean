/-
  SlotLabel and ParseSlotLabel: the walks.
-/
import Derived.Test.Qxb6500715aFmtSlF
import Derived.Test.Qxb6500715aFmtAud1
import Derived.Test.Qxb6500715aFmtLaw8
namespace Go.Proofs.Qxb6500715aFmt
open Go.RowKit
set_option linter.unusedSimpArgs false
set_option linter.unusedVariables false
/-- A text of four signs. -/
structure Lbl (s : ByteArray) (x0 x1 x2 x3 : Int) : Prop where
  sz : s.size = 4
  i0 : ∀ w : World, (Instr.index 9 (.string s) (.int .i64 0)).run Tryf.prog w = .ok (.int .u8 x0) w
  i1 : ∀ w : World, (Instr.index 9 (.string s) (.int .i64 1)).run Tryf.prog w = .ok (.int .u8 x1) w
  i2 : ∀ w : World, (Instr.index 9 (.string s) (.int .i64 2)).run Tryf.prog w = .ok (.int .u8 x2) w
  i3 : ∀ w : World, (Instr.index 9 (.string s) (.int .i64 3)).run Tryf.prog w = .ok (.int .u8 x3) w
def four (x0 x1 x2 x3 : Int) : Nat → Int := fun i => if i = 0 then x0 else if i = 1 then x1 else if i = 2 then x2 else x3
theorem u8_back {x : Int} (h : 0 ≤ x ∧ x < 256) : ((UInt8.ofNat x.toNat).toNat : Int) = x := by
  rw [UInt8.toNat_ofNat']
  omega
theorem lbl_of {x0 x1 x2 x3 : Int} (h0 : 0 ≤ x0 ∧ x0 < 256) (h1 : 0 ≤ x1 ∧ x1 < 256) (h2 : 0 ≤ x2 ∧ x2 < 256) (h3 : 0 ≤ x3 ∧ x3 < 256) : Lbl (strOfNums (listOf (four x0 x1 x2 x3) 4)) x0 x1 x2 x3 := by
  have hsz : (strOfNums (listOf (four x0 x1 x2 x3) 4)).size = 4 := by rw [strOfNums_size, listOf_len]
  have key : ∀ (k : Nat) (x : Int) (w : World), k < 4 → four x0 x1 x2 x3 k = x → 0 ≤ x ∧ x < 256 → (Instr.index 9 (.string (strOfNums (listOf (four x0 x1 x2 x3) 4))) (.int .i64 (k : Int))).run Tryf.prog w = .ok (.int .u8 x) w := fun k x w hk hx hb => by
    rw [run_index_string w 9 _ .i64 k Tryf.underlying9, dif_pos ⟨by omega, by rw [hsz]; omega⟩]
    congr 2
    have : (strOfNums (listOf (four x0 x1 x2 x3) 4))[(k : Int).toNat]'(by rw [hsz]; omega) = UInt8.ofNat x.toNat := by
      simp only [Int.toNat_natCast]
      show (strOfNums (listOf (four x0 x1 x2 x3) 4)).data[k]'_ = _
      simp [strOfNums, listOf, hx]
    rw [this]
    exact u8_back hb
  exact ⟨hsz, fun w => key 0 x0 w (by omega) rfl h0, fun w => key 1 x1 w (by omega) rfl h1, fun w => key 2 x2 w (by omega) rfl h2, fun w => key 3 x3 w (by omega) rfl h3⟩
def sgn (si : Nat) : Int := if si = 1 then 82 else 76
def lbPost (al dt du si : Nat) (w : World) (e : Ending) (w' : World) : Prop :=
  ∃ s, e = .returned (.tuple #[.string s, .bool true]) ∧ Lbl s (65 + (al : Int)) (48 + (dt : Int)) (48 + (du : Int)) (sgn si) ∧ Below w.heap.size w w'
set_option maxRecDepth 20000 in
set_option maxHeartbeats 4000000 in
theorem slotLabel_any (F : FP) (q s al po si dt du : Nat) (w : World) (h : FlN w F) (hq : q = F.A * F.S * F.D) (hs : s < q) (hqb : q ≤ 192) (h1 : si = s % F.D) (h2 : al = s / F.D / F.S) (h3 : po = s / F.D % F.S) (hal : al < F.A) (hpo : po < F.S) (hsi : si ≤ 1) (hdt : dt = (po + 1) / 10) (hdu : du = (po + 1) % 10) :
    Calls Tryf.prog 38 #[.pointer (some ⟨F.fb, 0, none⟩), .int .i64 (s)] w (lbPost al dt du si w) := by
  have HH := hid h
  have SP := hid (fun w' (h' : FlN w' F) => slotPlace_yes F q s al po si w' h' hq hs hqb h1 h2 h3)
  have hA := h.lay.hA
  have hS := h.lay.hS
  have e1 : ((po : Int) + 1) / 10 = (dt : Int) := by omega
  have e2 : ((po : Int) + 1) % 10 = (du : Int) := by omega
  have b1 : dt ≤ 1 ∧ du ≤ 9 := by omega
  clear h hq h1 h2 h3 hdt hdu
  rcases (by omega : si = 0 ∨ si = 1) with rfl | rfl
  · go_enter Tryf.func38, Tryf.ntmps38
    go_wp2_with (go_at_call 57; refine (SP.out _ (HH.out.below (by (repeat (first | with_reducible exact Below.rf _ | with_reducible exact World.below_ext _ _ | with_reducible refine Below.ex ?_ _ | with_reducible refine Below.al ?_ _ | with_reducible refine Below.setCell ?_ (by simp) _ | with_reducible refine Below.drew ?_))))).mono ?_; rintro e w' ⟨rfl, z, rfl⟩)
    rw [conv_bytes (four (65 + (al : Int)) (48 + (dt : Int)) (48 + (du : Int)) 76) _ 0 4 4 _ ?_]
    · go_wp2
      go_ret2
      refine ⟨_, rfl, lbl_of (by omega) (by omega) (by omega) (by omega), ?_⟩
      (repeat (first | with_reducible exact Below.rf _ | with_reducible exact World.below_ext _ _ | with_reducible refine Below.ex ?_ _ | with_reducible refine Below.al ?_ _ | with_reducible refine Below.setCell ?_ (by simp) _ | with_reducible refine Below.drew ?_))
    · intro i hi
      rcases (by omega : i = 0 ∨ i = 1 ∨ i = 2 ∨ i = 3) with rfl | rfl | rfl | rfl <;> simp [go_sem, ↓IntWalk.iteOmega, four]
  · go_enter Tryf.func38, Tryf.ntmps38
    go_wp2_with (go_at_call 57; refine (SP.out _ (HH.out.below (by (repeat (first | with_reducible exact Below.rf _ | with_reducible exact World.below_ext _ _ | with_reducible refine Below.ex ?_ _ | with_reducible refine Below.al ?_ _ | with_reducible refine Below.setCell ?_ (by simp) _ | with_reducible refine Below.drew ?_))))).mono ?_; rintro e w' ⟨rfl, z, rfl⟩)
    rw [conv_bytes (four (65 + (al : Int)) (48 + (dt : Int)) (48 + (du : Int)) 82) _ 0 4 4 _ ?_]
    · go_wp2
      go_ret2
      refine ⟨_, rfl, lbl_of (by omega) (by omega) (by omega) (by omega), ?_⟩
      (repeat (first | with_reducible exact Below.rf _ | with_reducible exact World.below_ext _ _ | with_reducible refine Below.ex ?_ _ | with_reducible refine Below.al ?_ _ | with_reducible refine Below.setCell ?_ (by simp) _ | with_reducible refine Below.drew ?_))
    · intro i hi
      rcases (by omega : i = 0 ∨ i = 1 ∨ i = 2 ∨ i = 3) with rfl | rfl | rfl | rfl <;> simp [go_sem, ↓IntWalk.iteOmega, four]
set_option maxRecDepth 20000 in
set_option maxHeartbeats 4000000 in
/-- Parsing it again. -/
theorem parse_any (F : FP) (sb : ByteArray) (s al po si dt du m1 m2 : Nat) (w : World) (h : FlN w F) (hL : Lbl sb (65 + (al : Int)) (48 + (dt : Int)) (48 + (du : Int)) (sgn si)) (hal : al < F.A) (hpo : po < F.S) (hsi : si < F.D) (hd : dt ≤ 1 ∧ du ≤ 9) (hn : dt * 10 + du = po + 1)
    (e1 : al * F.S = m1) (e2 : (m1 + po) * F.D = m2) (e3 : m2 + si = s) (hs : s ≤ 1000) :
    Calls Tryf.prog 39 #[.pointer (some ⟨F.fb, 0, none⟩), .string sb] w fun e w' => e = .returned (.tuple #[.int .i64 (s), .bool true]) ∧ ∃ z, w' = w.ext z := by
  have SA := hid (fun (w' : World) (h' : FlN w' F) => slotAt_any F al po si s m1 m2 w' h' hal hpo hsi e1 e2 e3 hs)
  have HH := hid h
  obtain ⟨sz, i0, i1, i2, i3⟩ := hL
  have hA := h.lay.hA
  have hS := h.lay.hS
  have hD := h.lay.hD
  clear h e1 e2 e3
  obtain ⟨x0, hx0⟩ : ∃ x, (65 + (al : Int)) = x := ⟨_, rfl⟩
  obtain ⟨x1, hx1⟩ : ∃ x, (48 + (dt : Int)) = x := ⟨_, rfl⟩
  obtain ⟨x2, hx2⟩ : ∃ x, (48 + (du : Int)) = x := ⟨_, rfl⟩
  rw [hx0] at i0
  rw [hx1] at i1
  rw [hx2] at i2
  have f0 : x0 - 65 = (al : Int) := by omega
  have f1 : x1 - 48 = (dt : Int) := by omega
  have f2 : x2 - 48 = (du : Int) := by omega
  have f3 : (dt : Int) * 10 + (du : Int) - 1 = (po : Int) := by omega
  have g0 : 65 ≤ x0 ∧ x0 ≤ 73 := by omega
  have g1 : 48 ≤ x1 ∧ x1 ≤ 57 := by omega
  have g2 : 48 ≤ x2 ∧ x2 ≤ 57 := by omega
  have d1 : decide (x1 < 48) = false := by simp; omega
  have d2 : decide (57 < x1) = false := by simp; omega
  have d3 : decide (x2 < 48) = false := by simp; omega
  have d4 : decide (57 < x2) = false := by simp; omega
  rcases (by omega : si = 0 ∨ si = 1) with rfl | rfl
  · replace i3 : ∀ w : World, (Instr.index 9 (.string sb) (.int .i64 3)).run Tryf.prog w = .ok (.int .u8 76) w := i3
    go_enter Tryf.func39, Tryf.ntmps39
    go_wp2
    first | with_reducible refine wp_region_ext2 (by kernel_rfl) (by kernel_rfl) ?_ | refine wp_region_ext (by kernel_rfl) (by kernel_rfl) ?_
    repeat (go_big_quiet_step (fail))
    refine wpQuiet_nil ?_
    rintro _ ⟨z, rfl⟩
    go_wp2_with (go_at_call 60; refine (SA.out _ (HH.out.ex _)).mono ?_; rintro e w' ⟨rfl, z2, rfl⟩)
    go_ret2
    refine ⟨rfl, ?_⟩
    refine Below.is_ext ?_
    repeat (first | with_reducible exact Below.rf _ | with_reducible exact World.below_ext _ _ | with_reducible refine Below.ex ?_ _ | with_reducible refine Below.al ?_ _ | with_reducible refine Below.setCell ?_ (by simp) _ | with_reducible refine Below.drew ?_)
  · replace i3 : ∀ w : World, (Instr.index 9 (.string sb) (.int .i64 3)).run Tryf.prog w = .ok (.int .u8 82) w := i3
    go_enter Tryf.func39, Tryf.ntmps39
    go_wp2
    first | with_reducible refine wp_region_ext2 (by kernel_rfl) (by kernel_rfl) ?_ | refine wp_region_ext (by kernel_rfl) (by kernel_rfl) ?_
    repeat (go_big_quiet_step (fail))
    refine wpQuiet_nil ?_
    rintro _ ⟨z, rfl⟩
    go_wp2_with (go_at_call 60; refine (SA.out _ (HH.out.ex _)).mono ?_; rintro e w' ⟨rfl, z2, rfl⟩)
    go_ret2
    refine ⟨rfl, ?_⟩
    refine Below.is_ext ?_
    repeat (first | with_reducible exact Below.rf _ | with_reducible exact World.below_ext _ _ | with_reducible refine Below.ex ?_ _ | with_reducible refine Below.al ?_ _ | with_reducible refine Below.setCell ?_ (by simp) _ | with_reducible refine Below.drew ?_)
end Go.Proofs.Qxb6500715aFmt
