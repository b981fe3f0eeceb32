/-
  link: the walk.
-/
import Derived.Test.Qxb6500715aFmtLk2
import Derived.Test.Qxb6500715aFmtEdp
namespace Go.Proofs.Qxb6500715aFmt
open Go.RowKit
set_option linter.unusedSimpArgs false
set_option linter.unusedVariables false

theorem dir_ix (k : Nat) (hk : k < 4) (w : World) : (Instr.index 128 (.agg #[.int .i64 (1), .int .i64 (2), .int .i64 (3), .int .i64 (4)]) (.int .i64 (k : Int))).run Tryf.prog w = .ok (.int .i64 ((k : Int) + 1)) w := by
  rcases (by omega : k = 0 ∨ k = 1 ∨ k = 2 ∨ k = 3) with rfl | rfl | rfl | rfl <;> kernel_rfl

set_option maxRecDepth 20000 in
set_option maxHeartbeats 2000000 in
theorem link_any (F : FP) (v15 v16 v17 v18 : Value) (w : World) (h : FlN w F) (hD : Dirs w) (hf1 : F.fb ≠ 1) (h15 : w.cell? ⟨F.fb, 15, none⟩ = some v15) (h16 : w.cell? ⟨F.fb, 16, none⟩ = some v16) (h17 : w.cell? ⟨F.fb, 17, none⟩ = some v17) (h18 : w.cell? ⟨F.fb, 18, none⟩ = some v18) :
    Calls Tryf.prog 52 #[.pointer (some ⟨F.fb, 0, none⟩)] w fun e w' => e = .returned (.tuple #[]) ∧ ∃ eb Y C E v m xs, Lk2 w w' F eb Y C E v m xs ∧ EdI F F.N 0 E m xs := by
  have HH := hid h
  have HD := hid hD
  have hNL : F.N ≤ 384 := by rw [h.num.hN]; exact Nat.le_trans (cnt_le _ _) h.hLb
  have i11 := h.num.i11
  have hqc := h.num.qc
  have hfb := h.hdr.hfb
  have f15 := h.hdr.fz 15
  have f16 := h.hdr.fz 16
  obtain ⟨Z1, hZ1, -, hmk1⟩ := make_is (P := Tryf.prog) 53 3 (.int .i64 0) 1 8 Tryf.underlying53 (by kernel_rfl) (F.N + 1) (by omega) (by omega)
  obtain ⟨Z2, hZ2, hmk2⟩ := make_cap (P := Tryf.prog) 52 50 (.int .i64 0) 1 8 Tryf.underlying52 (by kernel_rfl) (4 * F.N) (by omega) (by omega)
  have e1 : ((F.N + 1 : Nat) : Int) = (F.N : Int) + 1 := rfl
  have e4 : ((4 * F.N : Nat) : Int) = 4 * (F.N : Int) := rfl
  rw [e1] at hmk1
  rw [e4] at hmk2
  clear e1 e4 h hD
  go_enter Tryf.func52, Tryf.ntmps52
  go_wp2
  go_loopw [34] (fun x wr => ∃ (c : Nat) (Y C : Array Value), c ≤ F.N ∧ x = .int .i64 (c) ∧ LnkAt w wr F c (F.flat c) Y C) (fun x _ => F.N - (intOf x).toNat)
  case atStart =>
    refine ⟨0, Z1, Z2, Nat.zero_le _, rfl, ?_⟩
    have hc : ∀ j, j ≠ 15 → j ≠ 16 → ((((w.setCell ⟨F.fb, 15, none⟩ (.slice (some ⟨w.heap.size, 0, none⟩) (F.N + 1) (F.N + 1))).setCell ⟨F.fb, 16, none⟩ (.slice (some ⟨w.heap.size + 1, 0, none⟩) 0 (4 * F.N))).alloc (.cells Z1 3)).alloc (.cells Z2 50)).cell? ⟨F.fb, j, none⟩ = w.cell? ⟨F.fb, j, none⟩ := fun j h1 h2 => by
      rw [World.cell?_alloc_old _ _ _ (by simp; omega), World.cell?_alloc_old _ _ _ (by simp; omega), fld_ne _ _ _ _ _ (Ne.symm h2), fld_ne _ _ _ _ _ (Ne.symm h1)]
    refine ⟨HH.out, fun j hj => hc j (by omega) (by omega), fun j => ?_, ?_, ?_, fun j hj => hc j (by omega) (by omega), ?_, by omega, fun j hj => by omega, ?_, by omega, fun j x hx => by simp [FP.flat] at hx, ((((KeptBut.refl F.fb w).set (a := ⟨F.fb, 15, none⟩) (Or.inl rfl) _).set (a := ⟨F.fb, 16, none⟩) (Or.inl rfl) _).al _).al _⟩
    · rw [World.frozen?_alloc_old _ _ _ (by simp; omega), World.frozen?_alloc_old _ _ _ (by simp; omega)]; simpa using HH.out.hdr.fz j
    · rw [World.cell?_alloc_old _ _ _ (by simp; omega), World.cell?_alloc_old _ _ _ (by simp; omega), fld_ne _ _ _ _ _ (by omega)]; exact World.cell?_setCell_same _ _ _ h15
    · rw [World.cell?_alloc_old _ _ _ (by simp; omega), World.cell?_alloc_old _ _ _ (by simp; omega)]; exact World.cell?_setCell_same _ _ _ (u := v16) (by rw [fld_ne _ _ _ _ _ (by omega)]; exact h16)
    · rw [Below.heap_alloc _ _ _ (by simp)]
      have := (MapKept.heap_alloc ((w.setCell ⟨F.fb, 15, none⟩ (.slice (some ⟨w.heap.size, 0, none⟩) (F.N + 1) (F.N + 1))).setCell ⟨F.fb, 16, none⟩ (.slice (some ⟨w.heap.size + 1, 0, none⟩) 0 (4 * F.N))) (.cells Z1 3)).1
      simpa using this
    · have := (MapKept.heap_alloc (((w.setCell ⟨F.fb, 15, none⟩ (.slice (some ⟨w.heap.size, 0, none⟩) (F.N + 1) (F.N + 1))).setCell ⟨F.fb, 16, none⟩ (.slice (some ⟨w.heap.size + 1, 0, none⟩) 0 (4 * F.N))).alloc (.cells Z1 3)) (.cells Z2 50)).1
      simpa using this
  case round =>
    obtain ⟨c, Y, C, hc, rfl, hN⟩ := hrel
    have HN := hid hN
    have hlt2 := hN.lt
    have k15 := hN.k15
    have k16 := hN.k16
    have g15 := hN.fz 15
    have g16 := hN.fz 16
    have hfr : F.fb < wr.heap.size := by omega
    by_cases hlc : c < F.N
    · have p0 := hN.fl.num.pos0 c hlc
      have p1 := hN.fl.num.pos1 c hlc
      have hqb := hN.fl.num.lt.2.1
      obtain ⟨rr, hrr⟩ : ∃ rr, rr = F.pl c / F.W := ⟨_, rfl⟩
      obtain ⟨qq, hqq⟩ : ∃ qq, qq = F.pl c % F.W := ⟨_, rfl⟩
      have hpl := plc_spec (fun t => drv (F.kd t)) (L := F.L) (c := c) (by rw [← hN.fl.num.hN]; exact hlc)
      have hLb := HH.out.hLb
      have hrb : rr ≤ 384 := by rw [hrr]; exact Nat.le_trans (Nat.div_le_self _ _) (by unfold FP.pl; omega)
      have hqb2 : qq ≤ 384 := by rw [hqq]; exact Nat.le_trans (Nat.mod_le _ _) (by unfold FP.pl; omega)
      rw [Nat.zero_add, show plc (fun t => drv (F.kd t)) F.L c / F.W = rr from hrr.symm] at p0
      rw [Nat.zero_add, show plc (fun t => drv (F.kd t)) F.L c % F.W = qq from hqq.symm] at p1
      have hg1 : 1 < w.heap.size := HD.out.lt
      have HR := hid hrr
      have HQ := hid hqq
      clear hrr hqq hpl
      have hDr := HD.out.kept hN.kept hf1
      obtain ⟨hg0, d0, d1, d2, d3⟩ := hDr
      have cY : wr.cell? ⟨w.heap.size, c, none⟩ = some Y[c]! := by
        rw [cell_of_row wr w.heap.size c Y 3 (0, 0) hN.hY, getElem!_pos Y c (by rw [hN.ys]; omega)]; exact Array.getElem?_eq_getElem (by rw [hN.ys]; omega)
      have fY : wr.frozen? ⟨w.heap.size, c, none⟩ = false := by simp [World.frozen?, hN.hY]
      obtain ⟨y, hy⟩ : ∃ y, Y[c]! = y := ⟨_, rfl⟩
      rw [hy] at cY
      have hfl := F.flat_len c
      obtain ⟨len, hlen⟩ : ∃ len, (F.flat c).length = len := ⟨_, rfl⟩
      rw [hlen] at k16 hfl
      have bc : decide ((c : Int) < F.N) = true := by simp; omega
      clear hy hN
      go_wp2
      first | with_reducible refine wp_region_tail_ext2 10 (by kernel_rfl) (by kernel_rfl) ?_ | refine wp_region_tail_ext 10 (by kernel_rfl) (by kernel_rfl) ?_
      simp only [List.take_succ_cons, List.take_zero, List.drop_succ_cons, List.drop_zero]
      repeat (go_big_quiet_step (fail))
      refine wpQuiet_nil ?_
      rintro _ ⟨z, rfl⟩
      go_wp2
      have hN2 := ((HN.out.start (by omega) rfl).al (.cells #[.int .i64 (rr), .int .i64 (qq)] 43)).ex z
      rw [hlen] at hN2
      have hB0 : (((wr.setCell ⟨w.heap.size, c, none⟩ (.int .i64 (len))).alloc (.cells #[.int .i64 (rr), .int .i64 (qq)] 43)).ext z).cell? ⟨wr.heap.size, 0, none⟩ = some (.int .i64 (rr)) := by simp [go_sem, ↓IntWalk.iteOmega]
      have hB1 : (((wr.setCell ⟨w.heap.size, c, none⟩ (.int .i64 (len))).alloc (.cells #[.int .i64 (rr), .int .i64 (qq)] 43)).ext z).cell? ⟨wr.heap.size, 1, none⟩ = some (.int .i64 (qq)) := by simp [go_sem, ↓IntWalk.iteOmega]
      have hBs : wr.heap.size < (((wr.setCell ⟨w.heap.size, c, none⟩ (.int .i64 (len))).alloc (.cells #[.int .i64 (rr), .int .i64 (qq)] 43)).ext z).heap.size := by simp; omega
      generalize hX : World.ext (World.alloc (World.setCell wr _ _) _) z = X at *
      obtain ⟨B, hB⟩ : ∃ B, B = wr.heap.size := ⟨_, rfl⟩
      rw [← hB] at hB0 hB1 hBs ⊢
      have hBw : w.heap.size + 1 < B := by omega
      clear hB
      have HN2 := hid hN2
      have HLEN := hid hlen
      clear hX hN2 hlen k15 k16 g15 g16 cY fY p0 p1 d0 d1 d2 d3 hg0
      go_loopw [51] (fun x w2 => ∃ (k : Nat) (C : Array Value), k ≤ 4 ∧ x = .int .i64 (k) ∧ LnkAt w w2 F (c + 1) (F.flat c ++ F.adjTo c k) (Y.setIfInBounds c (.int .i64 (len))) C ∧ w2.cell? ⟨B, 0, none⟩ = some (.int .i64 (rr)) ∧ w2.cell? ⟨B, 1, none⟩ = some (.int .i64 (qq)) ∧ B < w2.heap.size) (fun x _ => 4 - (intOf x).toNat)
      case atStart => exact ⟨0, C, by omega, rfl, by simpa [FP.adjTo] using HN2.out, hB0, hB1, hBs⟩
      case round =>
        obtain ⟨k, C2, hk, rfl, hN3, b0, b1, bs⟩ := hrel
        have HN3 := hid hN3
        by_cases hlk : k < 4
        · have hix := dir_ix k hlk
          have bk : decide ((k : Int) < 4) = true := by simp; omega
          obtain ⟨tr, tq, hto⟩ : ∃ tr tq, F.to c k = (tr, tq) := ⟨_, _, rfl⟩
          have hsh : sh rr qq ((k : Int) + 1) = (tr, tq) := by rw [HR.out, HQ.out]; exact hto
          have hcn : F.can c k = F.pas rr qq tr tq := by rw [FP.can, hto, HR.out, HQ.out]
          have HTO := hid hto
          have HSH := hid hsh
          clear hto hsh
          rcases Bool.eq_false_or_eq_true (F.pas rr qq tr tq) with hps | hps
          · obtain ⟨⟨hr0, hr1, hq0, hq1⟩, hdv⟩ := pas_in F hps
            have HDV := hid hdv
            clear hdv
            obtain ⟨tn, rfl⟩ : ∃ n : Nat, tr = n := ⟨tr.toNat, by omega⟩
            obtain ⟨un, rfl⟩ : ∃ n : Nat, tq = n := ⟨tq.toNat, by omega⟩
            go_wp2_with (first | (go_at_call 73; refine (shift_is rr qq (k + 1) tn un _ (by omega) (by omega) HSH.out).mono ?_; rintro e w' ⟨rfl, z1, rfl⟩) | (go_at_call 74; refine (Calls.tf (passable_any F rr qq tn un _ ((HN3.out.fl.ex _).al _)) hps).mono ?_; rintro e w' ⟨rfl, z2, rfl⟩))
            have hN4 := ((HN3.out.ex z1).al (.cells #[.int .i64 (tn), .int .i64 (un)] 43)).ex z2
            have q0 : (((wr.ext z1).alloc (.cells #[.int .i64 (tn), .int .i64 (un)] 43)).ext z2).cell? ⟨wr.heap.size + z1.heap.size, 0, none⟩ = some (.int .i64 (tn)) := by simp [go_sem, ↓IntWalk.iteOmega]
            have q1 : (((wr.ext z1).alloc (.cells #[.int .i64 (tn), .int .i64 (un)] 43)).ext z2).cell? ⟨wr.heap.size + z1.heap.size, 1, none⟩ = some (.int .i64 (un)) := by simp [go_sem, ↓IntWalk.iteOmega]
            have qs : wr.heap.size + z1.heap.size < (((wr.ext z1).alloc (.cells #[.int .i64 (tn), .int .i64 (un)] 43)).ext z2).heap.size := by simp; omega
            have b02 : (((wr.ext z1).alloc (.cells #[.int .i64 (tn), .int .i64 (un)] 43)).ext z2).cell? ⟨B, 0, none⟩ = some (.int .i64 (rr)) := by simp [go_sem, ↓IntWalk.iteOmega]; exact b0
            have b12 : (((wr.ext z1).alloc (.cells #[.int .i64 (tn), .int .i64 (un)] 43)).ext z2).cell? ⟨B, 1, none⟩ = some (.int .i64 (qq)) := by simp [go_sem, ↓IntWalk.iteOmega]; exact b1
            have bs2 : B < wr.heap.size + z1.heap.size := by omega
            generalize hX2 : World.ext (World.alloc (World.ext wr z1) _) z2 = X2 at *
            generalize hBq : wr.heap.size + z1.heap.size = Bq at *
            have hll : (F.flat c ++ F.adjTo c k).length < 4 * F.N := by
              rw [List.length_append]; have := F.flat_len c; have := F.adjTo_len c k; omega
            have k16 := hN4.k16
            have k10 := hN4.fl.num.i10
            have h7 := hN4.fl.hdr.h7
            have g16 := hN4.fz 16
            have hC := hN4.hC
            have hCs := hN4.cs
            have hlt4 := hN4.lt
            have hib := hN4.fl.num.lt.1
            have hne := HH.out.ne
            have hWb := HH.out.hWb
            have hSb := HH.out.lay.hS
            obtain ⟨tw, htw⟩ : ∃ tw, tw = tn * F.W := ⟨_, rfl⟩
            have e2 : (tn : Int) * (F.W : Int) = tw := by rw [htw]; exact (Int.natCast_mul _ _).symm
            have hix2 : tw + un < F.L := by
              have h1 : (tn + 1) * F.W ≤ (F.S + 4) * F.W := Nat.mul_le_mul_right _ (by omega)
              rw [Nat.add_mul, Nat.one_mul, ← htw, Nat.mul_comm (F.S + 4), ← HH.out.hL] at h1
              omega
            have did := hN4.fl.num.ids (tw + un) hix2
            rw [if_pos (by have := HDV.out; rw [Int.toNat_natCast, Int.toNat_natCast, ← htw] at this; exact this)] at did
            obtain ⟨ix, hixx⟩ : ∃ ix, ix = tw + un := ⟨_, rfl⟩
            rw [← hixx] at did hix2
            have e3 : (tw : Int) + (un : Int) = (ix : Int) := by rw [hixx]; rfl
            have i0 : (0 : Int) ≤ ix := by omega
            have i1 : (ix : Int) < F.L := by omega
            have HIX := hid hixx
            obtain ⟨ll, hle⟩ : ∃ ll, (F.flat c ++ F.adjTo c k).length = ll := ⟨_, rfl⟩
            obtain ⟨nid, hnid⟩ : ∃ nid, nid = cnt (fun t => drv (F.kd t)) ix := ⟨_, rfl⟩
            have hnle : nid ≤ 384 := by rw [hnid]; exact Nat.le_trans (cnt_le _ _) (by omega)
            rw [← hnid] at did
            rw [hle] at k16 hll
            have HN4 := hid hN4
            have HLE := hid hle
            have HTW := hid htw
            have HNID := hid hnid
            clear hX2 hBq hN4 hle htw hnid b0 b1 HN3 hN3 hixx
            refine wp_region_mid 11 16 (fun w' => w'.cell? ⟨F.fb, 16, none⟩ = some (.slice (some ⟨w.heap.size + 1, 0, none⟩) ll (4 * F.N)) ∧ w'.cell? ⟨F.fb, 10, none⟩ = some (.slice (some ⟨F.ib, 0, none⟩) F.L F.L) ∧ w'.cell? ⟨Bq, 0, none⟩ = some (.int .i64 (tn)) ∧ w'.cell? ⟨Bq, 1, none⟩ = some (.int .i64 (un))) (by kernel_rfl) (by kernel_rfl) (by kernel_rfl) (by kernel_rfl) (by kernel_rfl) (by kernel_rfl) ?_ ?_
            · simp [go_sem, ↓IntWalk.iteOmega, *]
            simp only [List.take_succ_cons, List.take_zero, List.drop_succ_cons, List.drop_zero]
            repeat (refine wpHeld_step (v := ?_) rfl ?_ ?_; rotate_left; focus (intro w hSw; (try dsimp only at hSw); go_simp; (try (with_reducible rfl)); done); try simp only [Act.put, List.setIfInBounds_toArray, List.set_cons_zero, List.set_cons_succ])
            refine wpHeld_nil ?_
            refine wpMid_stepK rfl (fun K hK => ?_)
            go_simp
            refine (index_any F.fb F.W tn un X2.drew (by show F.fb < X2.heap.size; omega) h7 (by omega) (by omega)).mono ?_
            rintro e w5 ⟨rfl, z5, rfl⟩
            refine hK.out _ _ (by simp [go_sem, ↓IntWalk.iteOmega, *]) ?_
            clear hK K
            simp only [e2, e3]
            refine wpMid_stepK rfl (fun K hK => ?_)
            go_simp
            refine hK.out _ _ (by simp [go_sem, ↓IntWalk.iteOmega, *]) ?_
            clear hK K
            refine wpMid_stepK rfl (fun K hK => ?_)
            go_simp
            refine hK.out _ _ (by simp [go_sem, ↓IntWalk.iteOmega, *]) ?_
            clear hK K
            refine wpMid_stepK rfl (fun K hK => ?_)
            go_simp
            refine hK.out _ _ (by simp [go_sem, ↓IntWalk.iteOmega, *]) ?_
            clear hK K
            refine mid_room rfl _ _ 52 rfl 50 (.int .i64 0) 8 Tryf.underlying52 (by kernel_rfl) (w.heap.size + 1) ll (4 * F.N) C2 rfl ?_ hll (by omega) _ 1 (.int .i64 (nid)) rfl ?_ rfl ?_
            · rw [Below.heap_alloc _ _ _ (by simp; omega), World.block_ext _ _ _ (by omega)]; exact hC
            · simp [go_sem, ↓IntWalk.iteOmega]
            have cc1 : X2.cell? ⟨w.heap.size + 1, ll, none⟩ = some C2[ll]! := by
              rw [cell_of_row X2 (w.heap.size + 1) ll C2 50 (0, 0) hC, getElem!_pos C2 ll (by omega)]; exact Array.getElem?_eq_getElem (by omega)
            refine ⟨by simp [go_sem, ↓IntWalk.iteOmega, *], wpMid_zero ?_⟩
            clear hC cc1
            go_wp2
            refine NoPanic.normal ?_
            go_wp2
            go_roundw
            case rel =>
              refine ⟨k + 1, C2.setIfInBounds ll (.int .i64 (nid)), by omega, by go_num, ?_, ?_, ?_, ?_⟩
              · have := ((HN4.out.push nid (by rw [HLE.out]; exact hll)).ex z5).al (.cells #[.int .i64 (nid)] 50)
                rw [HLE.out] at this
                simp only [FP.adjTo]
                rw [hcn, hps, if_pos rfl, HTO.out, ← List.append_assoc, show F.id ((tn : Int).toNat * F.W + (un : Int).toNat) = nid by rw [Int.toNat_natCast, Int.toNat_natCast, FP.id, ← HTW.out, ← HIX.out, ← HNID.out]]
                exact this
              · simp [go_sem, ↓IntWalk.iteOmega]; exact b02
              · simp [go_sem, ↓IntWalk.iteOmega]; exact b12
              · simp; omega
            case measure => simp [intOf]; omega
          · go_wp2_with (first | (go_at_call 73; refine (shift_is rr qq (k + 1) tr tq _ (by omega) (by omega) HSH.out).mono ?_; rintro e w' ⟨rfl, z1, rfl⟩) | (go_at_call 74; refine (Calls.tf (passable_any F rr qq tr tq _ ((HN3.out.fl.ex _).al _)) hps).mono ?_; rintro e w' ⟨rfl, z2, rfl⟩))
            go_roundw
            case rel =>
              refine ⟨k + 1, C2, by omega, by go_num, ?_, ?_, ?_, ?_⟩
              · have := ((HN3.out.ex z1).al (.cells #[.int .i64 (tr), .int .i64 (tq)] 43)).ex z2
                simp only [FP.adjTo]
                rw [hcn, hps, if_neg (by simp), List.append_nil]
                exact this
              · simp [go_sem, ↓IntWalk.iteOmega]; exact b0
              · simp [go_sem, ↓IntWalk.iteOmega]; exact b1
              · simp; omega
            case measure => simp [intOf]; omega
        · obtain rfl : k = 4 := by omega
          go_wp2
          go_roundw
          case rel => exact ⟨c + 1, _, C2, by omega, by go_num, HN3.out⟩
          case measure => simp [intOf]; omega
    · obtain rfl : c = F.N := by omega
      obtain ⟨M, hM⟩ : ∃ M, M = F.st F.N := ⟨_, rfl⟩
      rw [show (F.flat F.N).length = M from hM.symm] at k16
      have hMb : M ≤ 4 * F.N := by rw [hM]; exact F.flat_len F.N
      obtain ⟨Z3, hZ3, hZ3e, hmk3⟩ := make_is (P := Tryf.prog) 54 68 (.int .i64 0) 1 8 Tryf.underlying54 (by kernel_rfl) M (by omega) (by omega)
      obtain ⟨Z4, hZ4, hmk4⟩ := make_cap (P := Tryf.prog) 55 67 (.agg #[.int .i64 (0), .int .i64 (0)]) 2 16 Tryf.underlying55 (by kernel_rfl) (M / 2) (by omega) (by omega)
      rw [show ((M / 2 : Nat) : Int) = (M : Int) / 2 by omega] at hmk4
      have i11r := hN.fl.num.i11
      have k17 := (hN.rest 17 (by omega)).trans h17
      have k18 := (hN.rest 18 (by omega)).trans h18
      have g17 := hN.fz 17
      have g18 := hN.fz 18
      have cY : wr.cell? ⟨w.heap.size, F.N, none⟩ = some Y[F.N]! := by
        rw [cell_of_row wr w.heap.size F.N Y 3 (0, 0) hN.hY, getElem!_pos Y F.N (by rw [hN.ys]; omega)]; exact Array.getElem?_eq_getElem (by rw [hN.ys]; omega)
      have fY : wr.frozen? ⟨w.heap.size, F.N, none⟩ = false := by simp [World.frozen?, hN.hY]
      obtain ⟨y, hy⟩ : ∃ y, Y[F.N]! = y := ⟨_, rfl⟩
      rw [hy] at cY
      have HM := hid hM
      have HZ3 := hid hZ3e
      clear hy hN hM hZ3e
      go_wp2
      first | with_reducible refine wp_region_tail_ext2 10 (by kernel_rfl) (by kernel_rfl) ?_ | refine wp_region_tail_ext 10 (by kernel_rfl) (by kernel_rfl) ?_
      simp only [List.take_succ_cons, List.take_zero, List.drop_succ_cons, List.drop_zero]
      repeat (go_big_quiet_step (fail))
      refine wpQuiet_nil ?_
      rintro _ ⟨z, rfl⟩
      go_wp2
      go_loopw [116] (fun x wr => ∃ (c eb : Nat) (Y C E : Array Value) (v : Value) (m : Nat) (xs : List Value), c ≤ F.N ∧ x = .int .i64 (c) ∧ m ≤ F.st c ∧ Lk2 w wr F eb Y C E v m xs ∧ EdI F c 0 E m xs) (fun x _ => F.N - (intOf x).toNat)
      case atStart =>
        have hX := ((HN.out.start (Nat.le_refl _) rfl).ex z).lk2 (E0 := Z3) (R0 := Z4) (cap := M / 2) h17 h18 (by rw [HZ3.out, ← HM.out]; simp [Value.cells]) (by omega) (by omega)
        rw [World.setCell_ext_old _ _ _ _ (by simp; omega), World.setCell_ext_old _ _ _ _ (by simp; omega)] at hX
        simp only [World.size_ext, World.size_setCell, show (F.flat F.N).length = M from HM.out.symm, ← HM.out] at hX
        exact ⟨0, _, _, _, _, _, 0, [], Nat.zero_le _, rfl, Nat.zero_le _, hX, EdI.start F _⟩
      case round =>
        obtain ⟨c, eb, Y2, C2, E, v, m, xs, hc2, rfl, hm, hN, hI⟩ := hrel
        have HI := hid hI
        clear hI
        have HN2 := hid hN
        clear HN
        have j11 := hN.fl.num.i11
        have k15 := hN.k15
        have k16 := hN.k16
        have k17 := hN.k17
        have k18 := hN.k18
        have hlt2 := hN.lt
        have heb := hN.heb
        have hfr : F.fb < wr.heap.size := hN.fl.hdr.hfb
        rw [← HM.out] at k16 k17
        by_cases hlc : c < F.N
        · have bc : decide ((c : Int) < F.N) = true := by simp; omega
          have s0 := hN.lnk.sv c (by omega)
          have s1 := hN.lnk.sv (c + 1) (by omega)
          rw [F.st_succ] at s1
          have hst : F.st c + (F.adj c).length ≤ M := by rw [HM.out, ← F.st_succ]; exact F.st_mono (by omega)
          obtain ⟨sa, hsa⟩ : ∃ x, F.st c = x := ⟨_, rfl⟩
          obtain ⟨la, hla⟩ : ∃ x, (F.adj c).length = x := ⟨_, rfl⟩
          rw [hsa] at s0 s1 hst hm
          rw [hla] at s1 hst
          have HSA := hid hsa
          have HLA := hid hla
          clear hN hsa hla
          go_wp2
          go_loopw [10] (fun x wr => ∃ (j eb : Nat) (Y C E : Array Value) (v : Value) (m : Nat) (xs : List Value), j ≤ la ∧ x = .int .i64 ((sa + j : Nat)) ∧ m ≤ sa + j ∧ Lk2 w wr F eb Y C E v m xs ∧ EdI F c j E m xs) (fun x _ => sa + la - (intOf x).toNat)
          case atStart => exact ⟨0, eb, Y2, C2, E, v, m, xs, Nat.zero_le _, rfl, by omega, HN2.out, HI.out⟩
          case round =>
            clear HI HN2 j11 k15 k16 k17 k18 hlt2 heb hfr s0 s1 hm
            obtain ⟨j, eb, Y2, C2, E, v, m, xs, hj, rfl, hm, hN, hI⟩ := hrel
            have HI := hid hI
            clear hI
            have HN2 := hid hN
            have k15 := hN.k15
            have k16 := hN.k16
            have k17 := hN.k17
            have k18 := hN.k18
            have hlt2 := hN.lt
            have heb := hN.heb
            have hfr : F.fb < wr.heap.size := hN.fl.hdr.hfb
            rw [← HM.out] at k16 k17
            have s1 := hN.lnk.sv (c + 1) (by omega)
            rw [F.st_succ, HSA.out, HLA.out] at s1
            by_cases hlj : j < la
            · have bj : decide (((sa : Int) + j) < (sa : Int) + la) = true := by simp; omega
              have hjl : j < (F.adj c).length := by rw [HLA.out]; exact hlj
              have hb := hN.lnk.cv (sa + j) (F.adj c)[j] (by rw [← HSA.out, F.flat_get c j F.N hlc hjl]; exact List.getElem?_eq_getElem hjl)
              have hbm : (F.adj c)[j] ∈ F.adj c := List.getElem_mem hjl
              have hbN := adj_lt HH.out.plain hlc hbm
              have hcb := adj_symm HH.out.plain hlc hbm
              have HBJ : Hid ((F.adj c)[j]? = some (F.adj c)[j]) := List.getElem?_eq_getElem hjl
              have HCN : Hid (c ≠ (F.adj c)[j]) := fun e => adj_ne HH.out.plain hlc (by rw [← e] at hbm; exact hbm)
              generalize (F.adj c)[j] = b at *
              obtain ⟨ev, hev⟩ : ∃ u, E[sa + j]? = some u := by obtain ⟨x, hx⟩ := hN.ev (sa + j) (by rw [← HM.out]; omega); exact ⟨_, hx⟩
              have cE : wr.cell? ⟨eb, sa + j, none⟩ = some ev := by rw [cell_of_row wr eb (sa + j) E 68 (0, 0) hN.hE]; exact hev
              have fE : wr.frozen? ⟨eb, sa + j, none⟩ = false := by simp [World.frozen?, hN.hE]
              obtain ⟨ao, cp, rfl⟩ : ∃ ao cp, v = .slice ao m cp := by
                rcases hN.own.2 with ⟨h1, h2⟩ | ⟨g, cap, cur, h1, _⟩
                · exact ⟨none, 0, by rw [h2]; exact h1⟩
                · exact ⟨some ⟨g, 0, none⟩, cap, h1⟩
              clear hev hN
              by_cases hab : c < b
              · go_wp2
                first | with_reducible refine wp_region_tail_ext2 10 (by kernel_rfl) (by kernel_rfl) ?_ | refine wp_region_tail_ext 10 (by kernel_rfl) (by kernel_rfl) ?_
                simp only [List.take_succ_cons, List.take_zero, List.drop_succ_cons, List.drop_zero]
                repeat (go_big_quiet_step (fail))
                refine wpQuiet_nil ?_
                rintro _ ⟨z, rfl⟩
                go_wp2_with (at_builtin; refine hold ?_)
                show wpList _ _ _ _ _ _
                refine wp_app rfl _ _ 55 rfl (eb + 1) 67 (.agg #[.int .i64 (0), .int .i64 (0)]) 2 16 Tryf.underlying55 (by kernel_rfl) rfl (by decide) _ m xs rfl (ownsRow_alloc (ownsRow_ext (own_set HN2.out.own _ _ _ (by omega))) _) _ 0 1 1 [.int .i64 (c), .int .i64 (b)] rfl rfl ?_ (by simp [Value.oneCell']) (by omega) (by omega) ?_ ?_
                · intro jj u hjj; simp [go_sem, ↓IntWalk.iteOmega]; simpa using hjj
                · (first | omega | (simp only [World.size_ext, World.size_alloc, World.size_setCell, World.size_drew, Array.size_append]; done) | (simp only [World.size_ext, World.size_alloc, World.size_setCell, World.size_drew, Array.size_append]; omega))
                intro v3 w3 hown3 hb3
                have HL := hid ((HN2.out.setE (sa + j) m (by rw [← HM.out]; omega)).ex z)
                have HEU := hid (HI.out.up HH.out.hWb.1 HBJ.out hab (by rw [HN2.out.es, ← HM.out, HSA.out]; omega))
                rw [HSA.out] at HEU
                have hB : Below (eb + 1) ((wr.setCell ⟨eb, sa + j, none⟩ (.int .i64 (m))).ext z) w3 := Below.trans (Below.alloc (Below.refl _ _) (by simp; omega) _) hb3
                obtain ⟨gb3, cp3, rfl, -, -, -, -⟩ := ownsRow_cells2 hown3 (by omega)
                have HP := hid (HL.out.push hB hown3)
                have t18 : w3.cell? ⟨F.fb, 18, none⟩ = some (.slice ao m cp) := (World.cell?_of_block (hB.block F.fb (by omega))).trans HL.out.k18
                have t18f : w3.frozen? ⟨F.fb, 18, none⟩ = false := (World.frozen?_of_block (hB.block F.fb (by omega))).trans (HL.out.fz 18)
                clear hown3 hb3 hB
                go_wp2
                go_roundw
                case rel => exact ⟨j + 1, eb, _, _, _, _, m + 1, _, by omega, by go_num, by omega, HP.out, HEU.out⟩
                case measure => simp [intOf]; omega
              · have hent := (fnd_mem c (F.adj b) (F.st b)).2 hcb
                have hent2 := fnd_lt c (F.adj b) (F.st b)
                have hstb : F.st b + (F.adj b).length ≤ M := by rw [HM.out, ← F.st_succ]; exact F.st_mono (by omega)
                obtain ⟨en, hen⟩ : ∃ en : Nat, F.ent b c = en := ⟨(F.ent b c).toNat, by unfold FP.ent; omega⟩
                have hen2 : en < M := by unfold FP.ent at hen; omega
                obtain ⟨tt, htt, het⟩ := ent_get F hcb
                obtain ⟨hem, hex⟩ := HI.out.ev b tt c (Or.inl (by have := HCN.out; omega)) htt
                obtain ⟨xn, hxn⟩ : ∃ xn, edn (F.endsTo c j) b c = xn := ⟨_, rfl⟩
                obtain ⟨x, hx0⟩ : ∃ x : Int, x = (xn : Int) := ⟨_, rfl⟩
                have hx : E[en]? = some (.int .i64 x) := by
                  rw [show en = F.st b + tt by rw [hen] at het; omega, hex, hxn, hx0]
                have HEU := hid (HI.out.dn (x := xn) HBJ.out hab (by rw [pr_comm]; exact hem) (by rw [edn_comm]; exact hxn.symm) (by rw [HN2.out.es, ← HM.out, HSA.out]; omega))
                rw [HSA.out, ← hx0] at HEU
                clear htt het hem hex hxn hx0
                have cX : wr.cell? ⟨eb, en, none⟩ = some (.int .i64 (x)) := by rw [cell_of_row wr eb en E 68 (0, 0) HN2.out.hE]; exact hx
                have HEN := hid hen
                have i0 : (0 : Int) ≤ en := by omega
                have i1 : (en : Int) < M := by omega
                clear hent hent2 hen hx
                go_wp2
                first | with_reducible refine wp_region_tail_ext2 15 (by kernel_rfl) (by kernel_rfl) ?_ | refine wp_region_tail_ext 15 (by kernel_rfl) (by kernel_rfl) ?_
                simp only [List.take_succ_cons, List.take_zero, List.drop_succ_cons, List.drop_zero]
                repeat (go_big_quiet_step ((go_at_call 25; exact Calls.ext_of_same (HEN.out ▸ entry_any F w.heap.size (w.heap.size + 1) b c _ (HN2.out.lnk.ex _) hNL hbN))))
                refine wpQuiet_nil ?_
                rintro _ ⟨z, rfl⟩
                go_wp2
                have HL := hid ((HN2.out.setE (sa + j) x (by rw [← HM.out]; omega)).ex z)
                go_roundw
                case rel => exact ⟨j + 1, eb, _, _, _, _, m, _, by omega, by go_num, by omega, HL.out, HEU.out⟩
                case measure => simp [intOf]; omega
            · obtain rfl : j = la := by omega
              go_wp2
              go_roundw
              case rel => exact ⟨c + 1, eb, _, _, _, _, m, _, by omega, by go_num, by rw [F.st_succ, HSA.out, HLA.out]; exact hm, HN2.out, (HLA.out ▸ HI.out : EdI F c (F.adj c).length E m xs).next⟩
              case measure => simp [intOf]; omega
        · go_wp2
          go_end0
          exact ⟨rfl, eb, Y2, C2, E, v, m, xs, HN2.out, (show c = F.N by omega) ▸ HI.out⟩
end Go.Proofs.Qxb6500715aFmt
