/-
  New: the walk.
-/
import Derived.Test.Qxb6500715aFmtKind
namespace Go.Proofs.Qxb6500715aFmt
open Go.RowKit
set_option linter.unusedSimpArgs false
set_option linter.unusedVariables false

theorem kept_below {b B : Nat} {w w1 : World} (h : KeptBut b w w1) (hb : B ≤ b) (hB : B ≤ w.heap.size) : Below B w w1 := ⟨h.os, h.tape, h.output, h.size, fun k hk => h.block k (by omega) (by omega)⟩

set_option maxRecDepth 20000 in
set_option maxHeartbeats 2000000 in
theorem new_good (A S P D c n pb cap : Nat) (px py : Nat → Nat) (w : World) (hG : Globs w) (hDr : Dirs w) (hL : LayN A S P D c n px py) (hOK : layOk A S P D 1 c n (fun i => (px i : Int)) (fun i => (py i : Int))) (hnc : n ≤ cap) (hpb : pb < w.heap.size)
    (hc0 : ∀ i, i < n → w.cell? ⟨pb, 0 + i * 2, none⟩ = some (.int .i64 (px i))) (hc1 : ∀ i, i < n → w.cell? ⟨pb, 0 + i * 2 + 1, none⟩ = some (.int .i64 (py i))) :
    Calls Tryf.prog 18 #[.agg #[.int .i64 (A), .int .i64 (S), .int .i64 (P), .int .i64 (D), .int .i64 (1), .int .i64 (c), .slice (some ⟨pb, 0, none⟩) n cap]] w fun e w' => ∃ fb, e = .returned (.tuple #[.pointer (some ⟨fb, 0, none⟩), .agg #[.int .u8 0, .int .i64 (0)]]) ∧ (w.heap.size ≤ fb ∧ fb < w'.heap.size) ∧ HasFlo w' (fun k => w.heap.size ≤ k ∧ k < w'.heap.size) fb ∧ ∃ z, w' = w.ext z := by
  have HG := hid hG
  have HDR := hid hDr
  have HL := hid hL
  have HOK := hid hOK
  have HC0 := hid hc0
  have HC1 := hid hc1
  have hw0 := hG.h0
  have hg0 := hG.g0
  have hg1 := hG.g1
  have hA := hL.hA
  have hS := hL.hS
  have hn := hL.hn
  have hPb : P ≤ 3 := by rcases hL.hP with h | h <;> omega
  have hWb : 3 ≤ (A - 1) * P + 3 ∧ (A - 1) * P + 3 ≤ 24 := by rcases hL.hP with h | h <;> rw [h] <;> omega
  obtain ⟨W, hW⟩ : ∃ W, W = (A - 1) * P + 3 := ⟨_, rfl⟩
  have hWi : ((A : Int) - 1) * P + 3 = W := by
    rw [hW, Int.natCast_add, Int.natCast_mul, Int.natCast_sub (by omega)]; rfl
  rw [← hW] at hWb
  have hp : -1000000 ≤ ((A : Int) - 1) * P ∧ ((A : Int) - 1) * P ≤ 1000000 := by omega
  have HW := hid hW
  have HWI := hid hWi
  clear hG hDr hL hOK hc0 hc1 hW hWi
  go_enter Tryf.func18, Tryf.ntmps18
  go_wp2_with fail
  refine (validate_any A S P D 1 c pb 0 n cap (fun i => (px i : Int)) (fun i => (py i : Int)) _ (by omega) (by omega) (by omega) (by omega) hnc ?_ ?_ ?_ ?_ ?_ ?_).mono ?_
  · (first | omega | (simp only [World.size_ext, World.size_alloc, World.size_setCell, World.size_drew, Array.size_append]; done) | (simp only [World.size_ext, World.size_alloc, World.size_setCell, World.size_drew, Array.size_append]; omega))
  · (first | omega | (simp only [World.size_ext, World.size_alloc, World.size_setCell, World.size_drew, Array.size_append]; done) | (simp only [World.size_ext, World.size_alloc, World.size_setCell, World.size_drew, Array.size_append]; omega))
  · simp [go_sem, ↓IntWalk.iteOmega]; exact HG.out.g0
  · simp [go_sem, ↓IntWalk.iteOmega]; exact HG.out.g1
  · intro i hi; simp [go_sem, ↓IntWalk.iteOmega]; exact by simpa using HC0.out i hi
  · intro i hi; simp [go_sem, ↓IntWalk.iteOmega]; exact by simpa using HC1.out i hi
  rintro e w' ⟨kk, o, rfl, hk, z1, rfl⟩
  obtain rfl := hk.2 HOK.out
  clear hk
  go_wp2_with (go_at_call 8; refine (accepted_any _ _ _).mono ?_; rintro e w' ⟨rfl, z2, rfl⟩)
  generalize hX : World.ext (World.alloc (World.ext (World.alloc (World.alloc w _) _) z1) _) z2 = X
  obtain ⟨bb, hbb⟩ : ∃ bb, bb = w.heap.size := ⟨_, rfl⟩
  have hXB : Below w.heap.size w X := by rw [← hX]; repeat (first | exact Below.rf _ | refine Below.ex ?_ _ | refine Below.al ?_ _)
  have L0 : X.cell? ⟨bb, 0, none⟩ = some (.int .i64 (A)) := by rw [← hX, hbb]; simp [go_sem, ↓IntWalk.iteOmega]
  have L1 : X.cell? ⟨bb, 1, none⟩ = some (.int .i64 (S)) := by rw [← hX, hbb]; simp [go_sem, ↓IntWalk.iteOmega]
  have L2 : X.cell? ⟨bb, 2, none⟩ = some (.int .i64 (P)) := by rw [← hX, hbb]; simp [go_sem, ↓IntWalk.iteOmega]
  have L3 : X.cell? ⟨bb, 3, none⟩ = some (.int .i64 (D)) := by rw [← hX, hbb]; simp [go_sem, ↓IntWalk.iteOmega]
  have L4 : X.cell? ⟨bb, 4, none⟩ = some (.int .i64 (1)) := by rw [← hX, hbb]; simp [go_sem, ↓IntWalk.iteOmega]
  have L5 : X.cell? ⟨bb, 5, none⟩ = some (.int .i64 (c)) := by rw [← hX, hbb]; simp [go_sem, ↓IntWalk.iteOmega]
  have L6 : X.cell? ⟨bb, 6, none⟩ = some (.slice (some ⟨pb, 0, none⟩) n cap) := by rw [← hX, hbb]; simp [go_sem, ↓IntWalk.iteOmega]
  have V0 : X.cell? ⟨bb + 1, 0, none⟩ = some (.int .u8 0) := by rw [← hX, hbb]; simp [go_sem, ↓IntWalk.iteOmega]
  have V1 : X.cell? ⟨bb + 1, 1, none⟩ = some (.int .i64 (0)) := by rw [← hX, hbb]; simp [go_sem, ↓IntWalk.iteOmega]
  have V0f : X.frozen? ⟨bb + 1, 0, none⟩ = false := by rw [← hX, hbb]; simp [go_sem, ↓IntWalk.iteOmega]
  have V1f : X.frozen? ⟨bb + 1, 1, none⟩ = false := by rw [← hX, hbb]; simp [go_sem, ↓IntWalk.iteOmega]
  have hbX : bb + 1 < X.heap.size := by rw [← hX, hbb]; simp; omega
  have hpX : pb < X.heap.size := by have := hXB.size; omega
  have C0 : Hid (∀ i, i < n → X.cell? ⟨pb, 0 + i * 2, none⟩ = some (.int .i64 (px i))) := fun i hi => by rw [hXB.cell hpb]; exact HC0.out i hi
  have C1 : Hid (∀ i, i < n → X.cell? ⟨pb, 0 + i * 2 + 1, none⟩ = some (.int .i64 (py i))) := fun i hi => by rw [hXB.cell hpb]; exact HC1.out i hi
  have HXB := hid hXB
  rw [← hbb]
  have HBB := hid hbb
  clear hX hXB hbb HC0 HC1 hg0 hg1
  go_region_held3 (fun w' => w'.cell? ⟨bb, 0, none⟩ = some (.int .i64 (A)) ∧ w'.cell? ⟨bb, 1, none⟩ = some (.int .i64 (S)) ∧ w'.cell? ⟨bb, 2, none⟩ = some (.int .i64 (P)) ∧ w'.cell? ⟨bb, 3, none⟩ = some (.int .i64 (D)) ∧ w'.cell? ⟨bb, 4, none⟩ = some (.int .i64 (1)) ∧ w'.cell? ⟨bb, 5, none⟩ = some (.int .i64 (c)) ∧ w'.cell? ⟨bb, 6, none⟩ = some (.slice (some ⟨pb, 0, none⟩) n cap)) (simp [go_sem, ↓IntWalk.iteOmega, *]) (first
    | (go_at_call 47; refine (clone_any A S P D 1 c pb 0 n cap (fun i => (px i : Int)) (fun i => (py i : Int)) X.drew (by omega) hnc hpX C0.out C1.out).mono ?_; rintro e w' ⟨qb, cp, hcp, hqb1, hqb2, hq0, hq1, rfl, z3, rfl⟩)
    | (go_at_call 48; refine (width_any A S P D 1 c _ _ (by omega) hp).mono ?_; rintro e w' ⟨rfl, z4, rfl⟩)
    | (go_at_call 49; refine (height_any A S P D 1 c _ _ (by omega)).mono ?_; rintro e w' ⟨rfl, z5, rfl⟩))
  rw [HWI.out]
  generalize hY : World.ext X _ = Y
  have hY2 : Y = (X.drew.ext z3).ext { z5 with heap := z4.heap ++ z5.heap } := by rw [← hY, World.ext_ext, World.drew_ext]
  have hYB : Below X.heap.size X Y := by rw [← hY]; exact World.below_ext _ _
  have hYs := hYB.size
  have hqb3 : qb < Y.heap.size := by rw [hY2]; simp at hqb2 ⊢; omega
  have D0 : Hid (∀ i, i < n → Y.cell? ⟨qb, 0 + i * 2, none⟩ = some (.int .i64 (px i))) := fun i hi => by
    rw [Nat.zero_add, hY2, World.cell?_ext_old _ _ _ hqb2]; exact hq0 i hi
  have D1 : Hid (∀ i, i < n → Y.cell? ⟨qb, 0 + i * 2 + 1, none⟩ = some (.int .i64 (py i))) := fun i hi => by
    rw [Nat.zero_add, hY2, World.cell?_ext_old _ _ _ hqb2]; exact hq1 i hi
  have hqX : X.heap.size ≤ qb := hqb1
  have HYB := hid hYB
  obtain ⟨fb, hfb0⟩ : ∃ fb, fb = X.heap.size + (z3.heap.size + (z4.heap.size + z5.heap.size)) := ⟨_, rfl⟩
  have hfb : fb = Y.heap.size := by rw [hfb0, ← hY]; simp
  rw [← hfb0]
  have hqf : qb < fb := by omega
  have hXf : X.heap.size ≤ fb := by omega
  clear hfb0 hq0 hq1 hqb1 hqb2 hY hY2 hYB
  obtain ⟨T0, hT0⟩ : ∃ T0, T0 = Y.alloc (.cells #[.int .i64 (A), .int .i64 (S), .int .i64 (P), .int .i64 (D), .int .i64 (1), .int .i64 (c), .slice (some ⟨qb, 0, none⟩) n cp, .int .i64 (W), .int .i64 ((S : Int) + 4), .slice none 0 0, .slice none 0 0, .slice none 0 0, .int .i64 (0), .slice none 0 0, .slice none 0 0, .slice none 0 0, .slice none 0 0, .slice none 0 0, .slice none 0 0, .pointer none] 58) := ⟨_, rfl⟩
  have hTc : ∀ j, T0.cell? ⟨fb, j, none⟩ = (#[.int .i64 (A), .int .i64 (S), .int .i64 (P), .int .i64 (D), .int .i64 (1), .int .i64 (c), .slice (some ⟨qb, 0, none⟩) n cp, .int .i64 (W), .int .i64 ((S : Int) + 4), .slice none 0 0, .slice none 0 0, .slice none 0 0, .int .i64 (0), .slice none 0 0, .slice none 0 0, .slice none 0 0, .slice none 0 0, .slice none 0 0, .slice none 0 0, .pointer none] : Array Value)[j]? := fun j => by rw [hT0]; exact World.cell?_alloc_at _ _ _ _ hfb
  have hTo : ∀ b o, b < Y.heap.size → T0.cell? ⟨b, o, none⟩ = Y.cell? ⟨b, o, none⟩ := fun b o hb => by rw [hT0]; exact World.cell?_alloc_old _ _ _ (by simp; omega)
  have hTz : ∀ j, T0.frozen? ⟨fb, j, none⟩ = false := fun j => by rw [hT0, hfb]; simp
  have hTs : T0.heap.size = fb + 1 := by rw [hT0, hfb]; simp
  have hH0 : Hdr T0 fb A S P D c qb cp n W := ⟨by omega, HW.out, (hTc 0).trans rfl, (hTc 1).trans rfl, (hTc 2).trans rfl, (hTc 3).trans rfl, (hTc 4).trans rfl, (hTc 5).trans rfl, (hTc 6).trans rfl, (hTc 7).trans rfl, (hTc 8).trans rfl, hTz⟩
  have HH0 := hid hH0
  have HTC := hid hTc
  have HTO := hid hTo
  have HTB : Hid (Below Y.heap.size Y T0) := by rw [hT0]; exact (Below.rf Y).al _
  rw [← hT0]
  have HFB := hid hfb
  clear hT0 hTc hTo hTz hH0 hfb
  go_wp2_with fail
  refine (paint_any fb A S P D c qb cp n W px py (.slice none 0 0) T0 HH0.out HL.out hcp (by omega) (by have := HFB.out; omega) ((HTC.out 9).trans rfl) (fun i hi => by rw [HTO.out _ _ hqb3]; exact D0.out i hi) (fun i hi => by rw [HTO.out _ _ hqb3]; exact D1.out i hi)).mono ?_
  rintro e w1 ⟨rfl, kb, hkb1, hkb2, hkd, zp, hw1⟩
  obtain ⟨L, hLL⟩ : ∃ L, L = W * (S + 4) := ⟨_, rfl⟩
  have hLb : L ≤ 384 := by
    have : W * (S + 4) ≤ 24 * 16 := Nat.mul_le_mul (by omega) (by omega)
    omega
  have hcW : c < W := by have := HL.out.hc; have := HW.out; omega
  have hWc : W + c < L := by
    have h1 : W * 2 ≤ W * (S + 4) := Nat.mul_le_mul_left _ (by omega)
    omega
  rw [← hLL] at hw1
  have hs1 : fb < w1.heap.size := by rw [hw1]; simp; omega
  have hB1 : KeptBut fb T0 w1 := by rw [hw1]; exact ((KeptBut.refl fb T0).set (a := ⟨fb, 9, none⟩) (Or.inl rfl) _).ex _
  have hF1 : ∀ j, j ≠ 9 → w1.cell? ⟨fb, j, none⟩ = T0.cell? ⟨fb, j, none⟩ := fun j hj => by
    rw [hw1, World.cell?_ext_old _ _ _ (by simp; omega)]; exact fld_ne _ _ _ _ _ (Ne.symm hj)
  have hz1 : ∀ j, w1.frozen? ⟨fb, j, none⟩ = T0.frozen? ⟨fb, j, none⟩ := fun j => by
    rw [hw1, World.frozen?_ext_old _ _ _ (by simp; omega)]; simp
  have k91 : w1.cell? ⟨fb, 9, none⟩ = some (.slice (some ⟨kb, 0, none⟩) L L) := by
    rw [hw1, World.cell?_ext_old _ _ _ (by simp; omega)]; exact World.cell?_setCell_same _ _ _ ((HTC.out 9).trans rfl)
  have hH1 : Hdr w1 fb A S P D c qb cp n W := HH0.out.of hB1.size (fun j hj => hF1 j (by omega)) hz1
  have hkds : ∀ i, i < L → w1.cell? ⟨kb, i, none⟩ = some (.int .u8 (kdOf A S P D n px py W i)) := fun i hi => by
    have := hkd (i / W) (i % W) (Nat.div_lt_of_lt_mul (by rw [← hLL]; exact hi)) (Nat.mod_lt _ (by omega))
    rw [show i / W * W + i % W = i by rw [Nat.mul_comm]; exact Nat.div_add_mod _ _] at this
    exact this
  have hB1s := hB1.size
  have HB1 := hid hB1
  have HF1 := hid hF1
  have HKDS := hid hkds
  have HH1 := hid hH1
  have HLL := hid hLL
  have E0 : Hid (∀ i, i < n → w1.cell? ⟨qb, 0 + i * 2, none⟩ = some (.int .i64 (px i))) := fun i hi => by rw [hB1.cell _ (by omega) (by omega), HTO.out _ _ hqb3]; exact D0.out i hi
  have E1 : Hid (∀ i, i < n → w1.cell? ⟨qb, 0 + i * 2 + 1, none⟩ = some (.int .i64 (py i))) := fun i hi => by rw [hB1.cell _ (by omega) (by omega), HTO.out _ _ hqb3]; exact D1.out i hi
  have hkbf : fb ≠ kb := by omega
  clear hw1 hF1 hz1 hH1 hkds hkd hB1 hLL
  go_wp2_with fail
  refine (number_any fb A S P D c qb cp n W L kb px py (kdOf A S P D n px py W) (.slice none 0 0) (.int .i64 (0)) (.slice none 0 0) (.slice none 0 0) w1 HH1.out ⟨hLb, hWc⟩ hWb hn hcp (by omega) (by omega) k91
    ((HF1.out 10 (by omega)).trans ((HTC.out 10).trans rfl)) ((HF1.out 11 (by omega)).trans ((HTC.out 11).trans rfl)) ((HF1.out 12 (by omega)).trans ((HTC.out 12).trans rfl)) ((HF1.out 13 (by omega)).trans ((HTC.out 13).trans rfl)) ((HF1.out 14 (by omega)).trans ((HTC.out 14).trans rfl))
    hkb2 hkbf HKDS.out (by rw [kd_front HL.out (by omega) hcW]; rfl) (fun r hr => ⟨by rw [HLL.out]; exact idx_lt HL.out HW.out hr, by rw [kd_bay HL.out HW.out hr]; rfl, by have := (HL.out.hx r hr).2; have := HW.out; omega⟩) E0.out E1.out).mono ?_
  rintro e w2 ⟨rfl, hH2, k92, hr2, hK2, N, ib, qb2, qc, ab, ob, hge, hnum⟩
  obtain ⟨F, hF⟩ : ∃ F : FP, F = { fb := fb, A := A, S := S, P := P, D := D, c := c, pb := qb, cap := cp, n := n, W := W, L := L, kb := kb, N := N, ib := ib, qb := qb2, qc := qc, ab := ab, ob := ob, kd := kdOf A S P D n px py W, px := px, py := py } := ⟨_, rfl⟩
  have hK2s := hK2.size
  have f1 : kb < w2.heap.size := by omega
  have f2 : ib ≠ fb ∧ qb2 ≠ fb ∧ ab ≠ fb ∧ ob ≠ fb := by omega
  have f3 : qb < w2.heap.size := by omega
  have f4 : qb ≠ fb := by omega
  have f5 : qb < w1.heap.size := by omega
  have hFl : FlN w2 F := by
    rw [hF]
    exact { hdr := hH2, lay := HL.out, hL := HLL.out, hLb := hLb, hWb := hWb, k9 := k92, hkb := ⟨f1, Ne.symm hkbf⟩, kds := fun i hi => by rw [hK2.cell _ hkb2 (Ne.symm hkbf)]; exact HKDS.out i hi,
            kind := fun r q hr hq => kd_at (by omega) hq, num := hnum, ne := f2, hpb := ⟨f3, f4, hcp⟩,
            pc0 := fun i hi => by rw [hK2.cell _ f5 f4]; exact E0.out i hi, pc1 := fun i hi => by rw [hK2.cell _ f5 f4]; exact E1.out i hi }
  have hNN1 : 1 ≤ F.N ∧ F.N ≤ 384 := by
    rw [hFl.num.hN]
    have h1 := cnt_lt (fun t => drv (F.kd t)) (i := W + c) (L := F.L) (by rw [hF]; exact hWc) (by rw [hF]; show drv (kdOf A S P D n px py W (W + c)) = true; rw [kd_front HL.out (by omega) hcW]; rfl)
    have h2 := cnt_le (fun t => drv (F.kd t)) F.L
    have h3 := hFl.hLb
    omega
  have hfF : F.fb = fb := by rw [hF]
  have hblk : F.kb = kb ∧ F.ib = ib ∧ F.qb = qb2 ∧ F.ab = ab ∧ F.ob = ob ∧ F.pb = qb := by rw [hF]; exact ⟨rfl, rfl, rfl, rfl, rfl, rfl⟩
  have rst : ∀ j, 15 ≤ j → w2.cell? ⟨F.fb, j, none⟩ = T0.cell? ⟨fb, j, none⟩ := fun j hj => by rw [hfF, hr2 j hj]; exact HF1.out j (by omega)
  have hTB2 : KeptBut fb T0 w2 := HB1.out.trans hK2
  have RST := hid rst
  have HFL := hid hFl
  have HTB2 := hid hTB2
  have hlt2 := hFl.num.lt
  clear hF rst hH2 k92 hr2 hK2 hnum hFl hTB2 k91
  subst hfF
  go_wp2_with fail
  have hDr2 : Dirs w2 := by
    have h1 : Dirs X := ⟨Nat.lt_of_lt_of_le HDR.out.lt HXB.out.size, (HXB.out.cell HDR.out.lt).trans HDR.out.d0, (HXB.out.cell HDR.out.lt).trans HDR.out.d1, (HXB.out.cell HDR.out.lt).trans HDR.out.d2, (HXB.out.cell HDR.out.lt).trans HDR.out.d3⟩
    have h2 : Dirs Y := h1.kept (b := F.fb) (KeptBut.of_below HYB.out (Nat.le_refl _)) (by have := HDR.out.lt; have := HXB.out.size; omega)
    have h3 : Dirs T0 := h2.kept (b := F.fb) (KeptBut.of_below HTB.out (Nat.le_refl _)) (by have := HDR.out.lt; have := HXB.out.size; omega)
    exact h3.kept HTB2.out (by have := HDR.out.lt; have := HXB.out.size; omega)
  refine (link_any F (.slice none 0 0) (.slice none 0 0) (.slice none 0 0) (.slice none 0 0) w2 HFL.out hDr2 (by have := HDR.out.lt; have := HXB.out.size; omega) ((RST.out 15 (by omega)).trans ((HTC.out 15).trans rfl)) ((RST.out 16 (by omega)).trans ((HTC.out 16).trans rfl)) ((RST.out 17 (by omega)).trans ((HTC.out 17).trans rfl)) ((RST.out 18 (by omega)).trans ((HTC.out 18).trans rfl))).mono ?_
  rintro e w3 ⟨rfl, eb, Y3, C3, E3, v3, m3, xs3, hK, hKI⟩
  obtain ⟨eo, xb, ecp, hEd, hex⟩ := hK.edg hKI
  have HED := hid hEd
  have hxl := hEd.lx
  clear hKI hEd
  have hl3 := hK.lnk
  have hf3 := hK.fl
  have hs3 := hK.kept.size
  have heb := hK.heb
  have hlt3 := hK.lt
  have k193 : w3.cell? ⟨F.fb, 19, none⟩ = some (.pointer none) := (hK.rest 19 (by omega)).trans ((RST.out 19 (by omega)).trans ((HTC.out 19).trans rfl))
  have z193 := hK.fz 19
  have HKK := hid hK.kept
  have HL3 := hid hl3
  have HF3 := hid hf3
  have hB3 : Below X.heap.size X w3 := ((HYB.out.trans (HTB.out.mono (by omega))).trans (kept_below HTB2.out (by omega) (by omega))).trans (kept_below HKK.out (by omega) (by omega))
  have HB3 := hid hB3
  have hU3 : Under F w2.heap.size (w2.heap.size + 1) w3.heap.size := ⟨hf3.hdr.hfb, hf3.hkb.1, hf3.num.lt.1, hf3.num.lt.2.1, hf3.num.lt.2.2.1, hf3.num.lt.2.2.2, hf3.hpb.1, hl3.lt.1, hl3.lt.2⟩
  have HU3 := hid hU3
  clear hK hl3 hf3 hDr2 hB3 hU3
  go_wp2_with fail
  refine (tables_any F w2.heap.size (w2.heap.size + 1) w3 HF3.out HL3.out HU3.out hNN1).mono ?_
  rintro e w4 ⟨tb, db, NN, dist, dia, D4, ⟨rfl, htb, hdb⟩, hT, z6, hw4⟩
  have hB4 : Below w3.heap.size w3 w4 := by rw [hw4]; exact World.below_ext _ _
  have hs4 := hB4.size
  have hXs := HXB.out.size
  have hX3 := HB3.out.size
  have hf3s : F.fb < w3.heap.size := HF3.out.hdr.hfb
  have k194 : w4.cell? ⟨F.fb, 19, none⟩ = some (.pointer none) := (hB4.cell (by omega)).trans k193
  have z194 : w4.frozen? ⟨F.fb, 19, none⟩ = false := (World.frozen?_of_block (hB4.block F.fb (by omega))).trans z193
  have hc4 : ∀ k o, k < X.heap.size → w4.cell? ⟨k, o, none⟩ = X.cell? ⟨k, o, none⟩ := fun k o hk => (World.cell?_of_block (hB4.block k (Nat.lt_of_lt_of_le hk hX3))).trans (HB3.out.cell hk)
  have hz4 : ∀ k o, k < X.heap.size → w4.frozen? ⟨k, o, none⟩ = X.frozen? ⟨k, o, none⟩ := fun k o hk => (World.frozen?_of_block (hB4.block k (Nat.lt_of_lt_of_le hk hX3))).trans (World.frozen?_of_block (HB3.out.block k hk))
  have g04 : w4.cell? ⟨0, 0, none⟩ = some (.int .u8 0) := by rw [hc4 _ _ (by omega), HXB.out.cell hw0]; exact HG.out.g0
  have g14 : w4.cell? ⟨0, 1, none⟩ = some (.int .i64 (0)) := by rw [hc4 _ _ (by omega), HXB.out.cell hw0]; exact HG.out.g1
  have v04 : w4.cell? ⟨bb + 1, 0, none⟩ = some (.int .u8 0) := (hc4 _ _ hbX).trans V0
  have v14 : w4.cell? ⟨bb + 1, 1, none⟩ = some (.int .i64 (0)) := (hc4 _ _ hbX).trans V1
  have vz0 : w4.frozen? ⟨bb + 1, 0, none⟩ = false := (hz4 _ _ hbX).trans V0f
  have vz1 : w4.frozen? ⟨bb + 1, 1, none⟩ = false := (hz4 _ _ hbX).trans V1f
  have hts : tb < w4.heap.size := (Array.getElem?_eq_some_iff.1 hT.ht).1
  have hds : db < w4.heap.size := (Array.getElem?_eq_some_iff.1 hT.hD).1
  have hEd4 := (HED.out.below hB4).of (w' := w4.setCell ⟨F.fb, 19, none⟩ (.pointer (some ⟨tb, 0, none⟩))) (by simp) (fld_ne _ _ _ _ _ (by omega)) (fld_ne _ _ _ _ _ (by omega)) (Below.heap_setCell _ _ _ _ (by simp; omega)) (Below.heap_setCell _ _ _ _ (by simp; omega))
  have HED4 := hid hEd4
  have hFlo := flo_set (HF3.out.below hB4) (HL3.out.below hB4) hT hNN1 ⟨by omega, by omega, by omega, by omega⟩ k194
  have hOn : OnB F w2.heap.size (w2.heap.size + 1) tb db (fun k => X.heap.size ≤ k ∧ k < w4.heap.size) :=
    ⟨by omega, by omega, by omega, by omega, by omega, by omega, by omega, by omega, by omega, by omega, by omega⟩
  have HFLO := hid hFlo
  have HON := hid hOn
  have HB4 := hid hB4
  clear hEd4 HED
  clear hc4 hz4 hT hw4 hFlo hOn hB4 V0 V1 V0f V1f L0 L1 L2 L3 L4 L5 L6 k193 z193
  go_wp2
  first | with_reducible refine wp_region_tail_ext2 3 (by kernel_rfl) (by kernel_rfl) ?_ | refine wp_region_tail_ext 3 (by kernel_rfl) (by kernel_rfl) ?_
  simp only [List.take_succ_cons, List.take_zero, List.drop_succ_cons, List.drop_zero]
  repeat (go_big_quiet_step (fail))
  refine wpQuiet_nil ?_
  rintro _ ⟨z, rfl⟩
  go_wp2
  have q1 : ((w4.setCell ⟨F.fb, 19, none⟩ (.pointer (some ⟨tb, 0, none⟩))).setCell ⟨bb + 1, 0, none⟩ (.int .u8 0)).cell? ⟨bb + 1, 0, none⟩ = some (.int .u8 0) :=
    World.cell?_setCell_same _ _ _ (u := .int .u8 0) (by rw [fld_far _ _ _ _ _ _ (by omega)]; exact v04)
  have q2 : (((w4.setCell ⟨F.fb, 19, none⟩ (.pointer (some ⟨tb, 0, none⟩))).setCell ⟨bb + 1, 0, none⟩ (.int .u8 0)).setCell ⟨bb + 1, 1, none⟩ (.int .i64 (0))).cell? ⟨bb + 1, 1, none⟩ = some (.int .i64 (0)) :=
    World.cell?_setCell_same _ _ _ (u := .int .i64 (0)) (by rw [fld_ne _ _ _ _ _ (by omega), fld_far _ _ _ _ _ _ (by omega)]; exact v14)
  refine bodyPost_ret (v := .tuple #[.pointer (some ⟨F.fb, 0, none⟩), .agg #[.int .u8 0, .int .i64 (0)]]) (by simp [results, Tryf.results18, go_sem, ↓IntWalk.iteOmega, q1, q2]) rfl ⟨F.fb, rfl, ?_, ?_, ?_⟩
  · exact ⟨by omega, by simp; omega⟩
  · have hbk : ∀ k, X.heap.size ≤ k ∧ k < w4.heap.size → ((((w4.setCell ⟨F.fb, 19, none⟩ (.pointer (some ⟨tb, 0, none⟩))).setCell ⟨bb + 1, 0, none⟩ (.int .u8 0)).setCell ⟨bb + 1, 1, none⟩ (.int .i64 (0))).ext z).heap[k]? = (w4.setCell ⟨F.fb, 19, none⟩ (.pointer (some ⟨tb, 0, none⟩))).heap[k]? := fun k hk => by
      rw [World.block_ext _ _ _ (by simp; omega), Below.heap_setCell _ _ _ _ (by simp; omega), Below.heap_setCell _ _ _ _ (by simp; omega)]
    exact ⟨F, _, _, tb, db, NN, dist, dia, D4, rfl, HFLO.out.on HON.out (by simp) (fun k hk => hbk k hk), HON.out.thin (fun k hk => ⟨by omega, by simp; omega⟩),
      eb, eo, xb, ecp, HED4.out.of (by simp) (World.cell?_of_block (hbk F.fb ⟨by omega, by omega⟩)) (World.cell?_of_block (hbk F.fb ⟨by omega, by omega⟩)) (hbk _ ⟨by omega, by omega⟩) (hbk _ ⟨by omega, by omega⟩), ⟨by omega, by simp; omega⟩, ⟨by omega, by simp; omega⟩⟩
  · have hBw : Below w.heap.size w w4 := HXB.out.trans ((HB3.out.mono (by omega)).trans (HB4.out.mono (by omega)))
    have hbw := HBB.out
    refine Below.is_ext ?_
    exact (((hBw.setCell (p := ⟨F.fb, 19, none⟩) (by simp; omega) _).setCell (p := ⟨bb + 1, 0, none⟩) (by simp; omega) _).setCell (p := ⟨bb + 1, 1, none⟩) (by simp; omega) _).ex _
end Go.Proofs.Qxb6500715aFmt
