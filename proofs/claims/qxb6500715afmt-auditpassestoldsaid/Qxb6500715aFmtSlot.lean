/-
  ValidSlot, SlotPlace, AisleCell, SlotCell.
-/
import Derived.Test.Qxb6500715aFmtPark
namespace Go.Proofs.Qxb6500715aFmt
open Go.RowKit
set_option linter.unusedSimpArgs false
set_option linter.unusedVariables false

theorem validSlot_yes (F : FP) (q s : Nat) (w : World) (h : FlN w F) (hq : q = F.A * F.S * F.D) (hs : s < q) (hqb : q ≤ 192) : Calls Tryf.prog 33 #[.pointer (some ⟨F.fb, 0, none⟩), .int .i64 (s)] w fun e w' => e = .returned (.bool true) ∧ ∃ z, w' = w.ext z := by
  have HH := hid h
  have HQ := hid hq
  clear h hq
  go_enter Tryf.func33, Tryf.ntmps33
  go_wp2_with (go_at_call 56; refine (slots_is F q _ HH.out HQ.out).mono ?_; rintro e w' ⟨rfl, z, rfl⟩)
  go_ret
  exact ⟨rfl, ⟨_, rfl⟩⟩

/-- A slot's aisle and its place along it. -/
theorem slotPlace_yes (F : FP) (q s al po si : Nat) (w : World) (h : FlN w F) (hq : q = F.A * F.S * F.D) (hs : s < q) (hqb : q ≤ 192) (h1 : si = s % F.D) (h2 : al = s / F.D / F.S) (h3 : po = s / F.D % F.S) :
    Calls Tryf.prog 57 #[.pointer (some ⟨F.fb, 0, none⟩), .int .i64 (s)] w fun e w' => e = .returned (.tuple #[.agg #[.int .i64 (al), .int .i64 (po), .int .i64 (si)], .bool true]) ∧ ∃ z, w' = w.ext z := by
  have HH := hid h
  have HQ := hid hq
  have d3 := h.hdr.h3
  have d1 := h.hdr.h1
  have hfb := h.hdr.hfb
  have hD := h.lay.hD
  have hS := h.lay.hS
  obtain ⟨sd, hsd⟩ : ∃ sd, sd = s / F.D := ⟨_, rfl⟩
  have e1 : (s : Int) % (F.D : Int) = (si : Int) := by rw [h1]; exact (Int.natCast_emod _ _).symm
  have e2 : (s : Int) / (F.D : Int) = (sd : Int) := by rw [hsd]; exact (Int.natCast_ediv _ _).symm
  have e3 : (sd : Int) / (F.S : Int) = (al : Int) := by rw [h2, ← hsd]; exact (Int.natCast_ediv _ _).symm
  have e4 : (sd : Int) % (F.S : Int) = (po : Int) := by rw [h3, ← hsd]; exact (Int.natCast_emod _ _).symm
  have b1 : sd ≤ 192 := by rw [hsd]; exact Nat.le_trans (Nat.div_le_self _ _) (by omega)
  have b2 : al ≤ 192 := by rw [h2]; exact Nat.le_trans (Nat.div_le_self _ _) (by rw [← hsd]; exact b1)
  have b3 : po ≤ 192 := by rw [h3]; exact Nat.le_trans (Nat.mod_le _ _) (by rw [← hsd]; exact b1)
  have b4 : si ≤ 192 := by rw [h1]; exact Nat.le_trans (Nat.mod_le _ _) (by omega)
  clear h hq h1 h2 h3 hsd
  go_enter Tryf.func57, Tryf.ntmps57
  go_wp2_with (go_at_call 33; refine (validSlot_yes F q s _ (HH.out.al _) HQ.out hs hqb).mono ?_; rintro e w' ⟨rfl, z, rfl⟩)
  first | with_reducible refine wp_region_tail_ext2 16 (by kernel_rfl) (by kernel_rfl) ?_ | refine wp_region_tail_ext 16 (by kernel_rfl) (by kernel_rfl) ?_
  simp only [List.take_succ_cons, List.take_zero, List.drop_succ_cons, List.drop_zero]
  repeat (go_big_quiet_step (fail))
  refine wpQuiet_nil ?_
  rintro _ ⟨z, rfl⟩
  go_wp2
  refine bodyPost_ret (v := .tuple #[.agg #[.int .i64 (al), .int .i64 (po), .int .i64 (si)], .bool true]) (by simp [results, Tryf.results57, go_sem, ↓IntWalk.iteOmega]) rfl ⟨rfl, ?_⟩
  refine Below.is_ext ?_
  repeat (first | with_reducible exact Below.rf _ | with_reducible exact World.below_ext _ _ | with_reducible refine Below.ex ?_ _ | with_reducible refine Below.al ?_ _ | with_reducible refine Below.setCell ?_ (by simp) _ | with_reducible refine Below.drew ?_)

/-- The cell at a place along an aisle. -/
def FP.aisle (F : FP) (al po : Nat) : Nat := F.id ((2 + po) * F.W + (1 + al * F.P))

theorem aisle_spec {F : FP} (hp : Pln F) {al po : Nat} (ha : al < F.A) (hpo : po < F.S) : (2 + po < F.S + 4 ∧ 1 + al * F.P < F.W) ∧ F.kd ((2 + po) * F.W + (1 + al * F.P)) = 4 ∧ F.aisle al po < F.N ∧ F.pl (F.aisle al po) = (2 + po) * F.W + (1 + al * F.P) := by
  have hP := hp.lay.hP
  have hW := hp.hW
  have h1 : al * F.P ≤ (F.A - 1) * F.P := Nat.mul_le_mul_right _ (by omega)
  have hq : 1 + al * F.P < F.W := by omega
  have hA : F.isA (1 + al * F.P) := by
    refine ⟨by omega, ?_, ?_⟩
    · rw [show 1 + al * F.P - 1 = al * F.P by omega]; exact Nat.mul_mod_left _ _
    · rw [show 1 + al * F.P - 1 = al * F.P by omega, Nat.mul_div_cancel _ (by omega)]; exact ha
  have hk := (k_mid hp (r := 2 + po) ⟨by omega, by omega⟩ hq).1 hA
  have hs := id_spec hp.pl (r := 2 + po) (q := 1 + al * F.P) (by omega) hq (by rw [hk]; rfl)
  exact ⟨⟨by omega, hq⟩, hk, hs.1, hs.2.1⟩

set_option maxHeartbeats 1000000 in
theorem aisleCell_yes (F : FP) (al po : Nat) (w : World) (h : FlN w F) (ha : al < F.A) (hpo : po < F.S) :
    Calls Tryf.prog 58 #[.pointer (some ⟨F.fb, 0, none⟩), .int .i64 (al), .int .i64 (po)] w fun e w' => e = .returned (.tuple #[.int .i64 (F.aisle al po), .bool true]) ∧ ∃ z, w' = w.ext z := by
  have hp := h.pln
  obtain ⟨⟨g1, g2⟩, g3, g4, g5⟩ := aisle_spec hp ha hpo
  obtain ⟨hfb, hW, h0, h1, h2, h3, h4, h5, h6, h7, h8, fz⟩ := h.hdr
  have hA := h.lay.hA
  have hS := h.lay.hS
  have hWb := h.hWb
  have hLb := h.hLb
  have i10 := h.num.i10
  have hib := h.num.lt.1
  obtain ⟨ap, hap⟩ : ∃ ap, ap = al * F.P := ⟨_, rfl⟩
  have e1 : (al : Int) * (F.P : Int) = ap := by rw [hap]; exact (Int.natCast_mul _ _).symm
  obtain ⟨rw, hrw⟩ : ∃ x, x = (2 + po) * F.W := ⟨_, rfl⟩
  have e2 : (2 + (po : Int)) * (F.W : Int) = rw := by rw [hrw, Int.natCast_mul]; rfl
  have hlt : rw + (1 + ap) < F.L := by
    have h1 : (2 + po + 1) * F.W ≤ (F.S + 4) * F.W := Nat.mul_le_mul_right _ (by omega)
    rw [Nat.add_mul, Nat.one_mul, ← hrw, Nat.mul_comm (F.S + 4), ← h.hL] at h1
    omega
  have did := h.num.ids (rw + (1 + ap)) hlt
  rw [if_pos (by rw [hrw, hap, g3]; rfl)] at did
  rw [show F.aisle al po = cnt (fun t => drv (F.kd t)) (rw + (1 + ap)) by rw [FP.aisle, FP.id, hrw, hap]]
  generalize cnt (fun t => drv (F.kd t)) (rw + (1 + ap)) = cc at *
  have b1 : ap < F.W := by omega
  have b2 : -1000000 ≤ (al : Int) * F.P ∧ (al : Int) * F.P ≤ 1000000 := by rw [e1]; omega
  clear h hp hW fz hap hrw g1 g2 g3 g4 g5
  go_enter Tryf.func58, Tryf.ntmps58
  go_wp2_with (go_at_call 61; refine (aisleCol_any _ _ _ _ _ _ _ _ _ b2).mono ?_; rintro e w' ⟨rfl, z1, rfl⟩)
  first | with_reducible refine wp_region_ext2 (by kernel_rfl) (by kernel_rfl) ?_ | refine wp_region_ext (by kernel_rfl) (by kernel_rfl) ?_
  repeat (go_big_quiet_step ((go_at_call 21; exact Calls.ext_of (index_any F.fb F.W (2 + po) _ _ (by (first | omega | (simp only [World.size_ext, World.size_alloc, World.size_setCell, World.size_drew, Array.size_append]; done) | (simp only [World.size_ext, World.size_alloc, World.size_setCell, World.size_drew, Array.size_append]; omega))) (by simp [go_sem, ↓IntWalk.iteOmega]; exact h7) (by omega) (by omega)))))
  refine wpQuiet_nil ?_
  rintro _ ⟨z, rfl⟩
  go_wp2
  refine bodyPost_ret (v := .tuple #[.int .i64 (cc), .bool true]) (by simp [results, Tryf.results58, go_sem, ↓IntWalk.iteOmega]) rfl ⟨rfl, ?_⟩
  refine Below.is_ext ?_
  repeat (first | with_reducible exact Below.rf _ | with_reducible exact World.below_ext _ _ | with_reducible refine Below.ex ?_ _ | with_reducible refine Below.al ?_ _ | with_reducible refine Below.setCell ?_ (by simp) _ | with_reducible refine Below.drew ?_)

theorem slotCell_yes (F : FP) (q s : Nat) (w : World) (h : FlN w F) (hq : q = F.A * F.S * F.D) (hs : s < q) (hqb : q ≤ 192) :
    Calls Tryf.prog 34 #[.pointer (some ⟨F.fb, 0, none⟩), .int .i64 (s)] w fun e w' => e = .returned (.tuple #[.int .i64 (F.aisle (s / F.D / F.S) (s / F.D % F.S)), .bool true]) ∧ ∃ z, w' = w.ext z := by
  have hS := h.lay.hS
  have hD := h.lay.hD
  have hpo : s / F.D % F.S < F.S := Nat.mod_lt _ (by omega)
  have hal : s / F.D / F.S < F.A := by
    rw [Nat.div_div_eq_div_mul]
    apply Nat.div_lt_of_lt_mul
    rw [Nat.mul_comm F.D F.S, Nat.mul_comm _ F.A, ← Nat.mul_assoc, ← hq]; exact hs
  have HH := hid h
  have HQ := hid hq
  obtain ⟨al, h2⟩ : ∃ al, al = s / F.D / F.S := ⟨_, rfl⟩
  obtain ⟨po, h3⟩ : ∃ po, po = s / F.D % F.S := ⟨_, rfl⟩
  obtain ⟨si, h1⟩ : ∃ si, si = s % F.D := ⟨_, rfl⟩
  rw [← h2] at hal ⊢
  rw [← h3] at hpo ⊢
  have H1 := hid h1
  have H2 := hid h2
  have H3 := hid h3
  obtain ⟨cc, hcc⟩ : ∃ cc, F.aisle al po = cc := ⟨_, rfl⟩
  have HC := hid hcc
  rw [hcc]
  clear h hq h1 h2 h3 hcc
  go_enter Tryf.func34, Tryf.ntmps34
  go_wp2_with (first | (go_at_call 57; refine (slotPlace_yes F q s al po si _ HH.out HQ.out hs hqb H1.out H2.out H3.out).mono ?_; rintro e w' ⟨rfl, z, rfl⟩) | (go_at_call 58; refine (HC.out ▸ aisleCell_yes F al po _ ((HH.out.ex _).al _) hal hpo).mono ?_; rintro e w' ⟨rfl, z2, rfl⟩))
  refine bodyPost_ret (v := .tuple #[.int .i64 (cc), .bool true]) (by simp [results, Tryf.results34, go_sem, ↓IntWalk.iteOmega]) rfl ⟨rfl, ?_⟩
  refine Below.is_ext ?_
  repeat (first | with_reducible exact Below.rf _ | with_reducible exact World.below_ext _ _ | with_reducible refine Below.ex ?_ _ | with_reducible refine Below.al ?_ _ | with_reducible refine Below.setCell ?_ (by simp) _ | with_reducible refine Below.drew ?_)
end Go.Proofs.Qxb6500715aFmt
