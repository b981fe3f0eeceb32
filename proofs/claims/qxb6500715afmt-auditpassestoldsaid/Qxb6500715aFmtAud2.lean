/-
  auditNumbering: the walk.
-/
import Derived.Test.Qxb6500715aFmtAud1
import Derived.Test.Qxb6500715aFmtPark
namespace Go.Proofs.Qxb6500715aFmt
open Go.RowKit
set_option linter.unusedSimpArgs false
set_option linter.unusedVariables false
/-- The depot is a front cell. -/
theorem depot_kd {w : World} {F : FP} (h : FlN w F) : F.id (F.W + F.c) < F.N ∧ F.kd (F.pl (F.id (F.W + F.c))) = 5 := by
  have hcW : F.c < F.W := by have := h.lay.hc; have := h.hdr.hW; omega
  have hS := h.lay.hS
  have hk := h.kind 1 F.c (by omega) hcW
  have h5 : kind3 F.A F.S F.P F.D F.n F.px F.py 1 F.c = 5 := by
    unfold kind3
    rw [not_bay h.lay ⟨Nat.le_refl _, by omega⟩, if_neg (by simp), kind2, if_neg (by omega), kind1, if_pos rfl]
  rw [h5] at hk
  have hi := id_spec h.plain (r := 1) (q := F.c) (by omega) hcW (by rw [hk]; rfl)
  rw [Nat.one_mul] at hi hk
  exact ⟨hi.1, by rw [hi.2.1]; exact hk⟩
theorem idx_is (F : FP) (i : Nat) (w : World) (h : FlN w F) (hi : i < F.L) : Calls Tryf.prog 21 #[.pointer (some ⟨F.fb, 0, none⟩), .agg #[.int .i64 ((i / F.W : Nat)), .int .i64 ((i % F.W : Nat))]] w fun e w' => e = .returned (.int .i64 (i)) ∧ ∃ z, w' = w.ext z := by
  have hL := h.hLb
  have hW := h.hWb
  have e1 : i / F.W * F.W + i % F.W = i := by rw [Nat.mul_comm]; exact Nat.div_add_mod _ _
  have h2 : ((i / F.W : Nat) : Int) * (F.W : Int) = ((i / F.W * F.W : Nat) : Int) := (Int.natCast_mul _ _).symm
  have h3 : i / F.W * F.W ≤ i := by omega
  have h4 : i % F.W ≤ i := Nat.mod_le _ _
  have := index_any F.fb F.W ((i / F.W : Nat) : Int) ((i % F.W : Nat) : Int) w h.hdr.hfb h.hdr.h7 (by rw [h2]; omega) (by omega)
  rw [h2, show (((i / F.W * F.W : Nat) : Int) + ((i % F.W : Nat) : Int)) = (i : Int) by omega] at this
  exact this
set_option maxRecDepth 20000 in
set_option maxHeartbeats 4000000 in
theorem audNum (F : FP) (w : World) (h : FlN w F) :
    Calls Tryf.prog 9 #[.pointer (some ⟨F.fb, 0, none⟩)] w fun e w' => e = .returned .nilIface ∧ ∃ z, w' = w.ext z := by
  have H := hid h
  have hfb := h.hdr.hfb
  have k9 := h.k9
  have hLb := h.hLb
  clear h
  go_enter Tryf.func9, Tryf.ntmps9
  go_wp2
  go_loopw [3, 11] (fun x v wr => ∃ i : Nat, v = .int .i64 (i) ∧ x = .int .i64 (F.id i) ∧ i ≤ F.L ∧ Below w.heap.size w wr) (fun _ v _ => F.L - (intOf v).toNat)
  case atStart => exact ⟨0, rfl, rfl, Nat.zero_le _, Below.rf _⟩
  case round =>
    obtain ⟨i, rfl, rfl, hi, hB⟩ := hrel
    have HB := hid hB
    have HF := hid (H.out.below hB)
    have hfr := HF.out.hdr.hfb
    have hkb := HF.out.hkb.1
    have hib := HF.out.num.lt.1
    have hqb := HF.out.num.lt.2.1
    have i10 := HF.out.num.i10
    have i11 := HF.out.num.i11
    have i12 := HF.out.num.i12
    have hN := HF.out.num.hN
    have hqc := HF.out.num.qc
    have hNL : F.N ≤ F.L := by rw [hN]; exact cnt_le _ _
    clear hB k9 hfb
    have HN := hid hN
    clear hN
    by_cases e : i < F.L
    · have ki := HF.out.kds i e
      have ci := HF.out.num.ids i e
      have di : decide ((i : Int) < (F.L : Int)) = true := by simp; omega
      have D := hid (drivable_any (F.kd i) wr)
      obtain ⟨kk, hkk⟩ : ∃ kk, F.kd i = kk := ⟨_, rfl⟩
      rw [hkk] at ki ci D
      have HK := hid hkk
      rcases Bool.eq_false_or_eq_true (drv kk) with hd | hd
      · rw [hd] at D
        rw [if_pos hd] at ci
        have hin : F.id i < F.N := by rw [HN.out]; exact cnt_lt (fun t => drv (F.kd t)) e (by show drv (F.kd i) = true; rw [hkk]; exact hd)
        have hnx : F.id (i + 1) = F.id i + 1 := by
          unfold FP.id
          simp only [cnt, hkk, hd, if_true]
        have hpl : F.pl (F.id i) = i := plc_cnt (fun t => drv (F.kd t)) e (by show drv (F.kd i) = true; rw [hkk]; exact hd)
        have p0 := HF.out.num.pos0 (F.id i) hin
        have p1 := HF.out.num.pos1 (F.id i) hin
        rw [show plc (fun t => drv (F.kd t)) F.L (F.id i) = i from hpl, Nat.zero_add] at p0 p1
        have V := hid (valid_yes F (F.id i) wr HF.out hin)
        have HX := hid (idx_is F i wr HF.out e)
        rw [show cnt (fun t => drv (F.kd t)) i = F.id i from rfl] at ci
        obtain ⟨x, hx⟩ : ∃ x, F.id i = x := ⟨_, rfl⟩
        rw [hx] at ci p0 p1 V hnx hin
        rw [hx]
        obtain ⟨r, hr⟩ : ∃ r, i / F.W = r := ⟨_, rfl⟩
        obtain ⟨q, hq⟩ : ∃ q, i % F.W = q := ⟨_, rfl⟩
        rw [hr] at p0 HX
        rw [hq] at p1 HX
        have HNX := hid hnx
        clear hr hq hx hnx hpl hkk HK
        go_wp2_with (first | (go_at_call 19; refine D.out.mono ?_; rintro e w' ⟨rfl, hw'⟩; obtain rfl := hw'.symm) | (go_at_call 20; refine V.out.mono ?_; rintro e w' ⟨rfl, hw'⟩; obtain rfl := hw'.symm) | (go_at_call 21; refine HX.out.mono ?_; rintro e w' ⟨rfl, z1, rfl⟩))
        go_roundw
        case rel => exact ⟨i + 1, by go_num, by rw [HNX.out]; go_num, by omega, HB.out.ex _⟩
        case measure => simp [intOf]; omega
      · rw [hd] at D
        rw [if_neg (by simp [hd])] at ci
        have hnx : F.id (i + 1) = F.id i := by
          unfold FP.id
          simp only [cnt, hkk, hd]
          simp
        obtain ⟨x, hx⟩ : ∃ x, F.id i = x := ⟨_, rfl⟩
        rw [hx] at hnx
        rw [hx]
        have HNX := hid hnx
        clear hx hnx hkk HK
        go_wp2_with (go_at_call 19; refine D.out.mono ?_; rintro e w' ⟨rfl, hw'⟩; obtain rfl := hw'.symm)
        go_roundw
        case rel => exact ⟨i + 1, by go_num, by rw [HNX.out], by omega, HB.out⟩
        case measure => simp [intOf]; omega
    · have hie : i = F.L := by omega
      have di : decide ((i : Int) < (F.L : Int)) = false := by simp; omega
      have hxN : F.id i = F.N := by rw [HN.out, hie]; rfl
      rw [hxN]
      obtain ⟨d1, d2⟩ := depot_kd HF.out
      have KD := hid (kindOf_is F (F.id (F.W + F.c)) 5 wr HF.out d1 d2)
      rw [show cnt (fun t => drv (F.kd t)) (F.W + F.c) = F.id (F.W + F.c) from rfl] at i12
      obtain ⟨x, hx⟩ : ∃ x, F.id (F.W + F.c) = x := ⟨_, rfl⟩
      rw [hx] at KD i12
      clear d1 d2 hx hxN
      go_wp2_with (go_at_call 22; refine KD.out.mono ?_; rintro e w' ⟨rfl, z1, rfl⟩)
      go_ret
      exact ⟨rfl, (HB.out.ex _).is_ext⟩
end Go.Proofs.Qxb6500715aFmt
