/-
  'do', exactly: the marks are made and cleared; a new table.
-/
import Derived.Test.Qxb6500717aGreatDoX5
namespace Go.Proofs.Qxb6500717aGreat
open Go.RowKit
set_option linter.unusedSimpArgs false
set_option linter.unusedVariables false
set_option maxRecDepth 20000
set_option maxHeartbeats 4000000

def clrN : Nat → MkS → MkS
  | 0, S => S
  | n + 1, S => (clrN n S).clr
theorem clrN_cn {S : MkS} {k : Nat} (h : S.cn ≤ k) : ∀ {n : Nat}, (clrN n S).cn ≤ k + 1
  | 0 => Nat.le_succ_of_le h
  | n + 1 => by
    simp only [clrN, MkS.clr]
    split <;> simp
def clrCount (A : Int) : Nat := if A < 1 then 1 else if 600 < A then 600 else A.toNat
theorem dx_mclear (A B C D : Int) (ao : Option Addr) (n cap : Nat) (lab : Nat → Nat) (d k : Nat) (Q : DkS) (w : World) (h : DeskX w lab d k Q) (hk9 : k ≤ 900000) : Calls Tryz.prog 6 #[.pointer (some ⟨d, 0, none⟩), .agg #[.int .i64 (23), .int .i64 (A), .int .i64 (B), .int .i64 (C), .int .i64 (D), .slice ao n cap]] w (doXPost lab d k (((0, []), { Q with S := clrN (clrCount A) Q.S })) w) := by
  have HDK := hid h
  obtain ⟨⟨tv, N, hd, hm, ht⟩, hl, hp, hbk⟩ := h
  have HD := hid hd
  have HM := hid hm
  have HO := hid ht
  have HL := hid hl
  have HP := hid hp
  have HBK := hid hbk
  have ld := hd.lt
  have lF := hl (w.heap.size + 1) (by omega)
  clear hd hm ht hl hp hbk
  have c3 := HD.out.c3
  have hmx : (A < 1) ∨ (A = 1) ∨ (1 < A ∧ A < 600) ∨ A = 600 ∨ 600 < A := by omega
  have HMX := hid hmx
  clear hmx
  obtain ⟨w1, hw1⟩ : ∃ w1, w1 = (w.alloc (.cells #[.int .i64 (23), .int .i64 (A), .int .i64 (B), .int .i64 (C), .int .i64 (D), .slice ao n cap] 36)).alloc (.cells #[.int .u8 0, .slice none 0 0] 39) := ⟨_, rfl⟩
  have B1 : Below w.heap.size w w1 := by rw [hw1]; (repeat (first | with_reducible exact Below.rf _ | with_reducible exact World.below_ext _ _ | with_reducible refine Below.ex ?_ _ | with_reducible refine Below.al ?_ _ | with_reducible refine Below.setCell ?_ (by simp) _ | with_reducible refine Below.drew ?_))
  have HB1 := hid B1
  have HM1 := hid (HM.out.below B1)
  have LT1 : w.heap.size + 1 < w1.heap.size := by rw [hw1]; simp
  have LT2 : d < w1.heap.size := by omega
  have A0 := hid (show w1.cell? ⟨w.heap.size + 1, 0, none⟩ = some (.int .u8 0) by rw [hw1]; simp [go_sem, ↓IntWalk.iteOmega])
  have A1 := hid (show w1.cell? ⟨w.heap.size + 1, 1, none⟩ = some (.slice none 0 0) by rw [hw1]; simp [go_sem, ↓IntWalk.iteOmega])
  have A2 := hid (show w1.frozen? ⟨w.heap.size + 1, 0, none⟩ = false by rw [hw1]; simp [go_sem, ↓IntWalk.iteOmega])
  have A3 := hid (show w1.frozen? ⟨w.heap.size + 1, 1, none⟩ = false by rw [hw1]; simp [go_sem, ↓IntWalk.iteOmega])
  have G3 := hid (show w1.cell? ⟨d, 3, none⟩ = some (.pointer (some ⟨N.m, 0, none⟩)) by rw [hw1]; simp [go_sem, ↓IntWalk.iteOmega, c3])
  have HW1 := hid hw1
  clear B1 hw1 c3
  rcases HMX.out with h1 | h1 | h1 | h1 | h1
  · rw [show clrCount A = 1 from if_pos h1]
    go_enter Tryz.func6, Tryz.ntmps6
    go_wp2
    rw [← HW1.out]
    go_loopw [9] (fun x wr => ∃ (j i : Nat), x = .int .i64 (j) ∧ i + j = 1 ∧ MkAt wr lab N (clrN i Q.S) ∧ KeptL lab markL w1 wr) (fun x _ => (intOf x).toNat)
    case atStart => exact ⟨1, 0, rfl, by omega, HM1.out, KeptL.refl _ _ _⟩
    case round =>
      obtain ⟨j, i, rfl, hj, hM, hK⟩ := hrel
      have f0 := hK.cell (b := w.heap.size + 1) 0 LT1 (by rw [lF]; simp [markL])
      have f1 := hK.cell (b := w.heap.size + 1) 1 LT1 (by rw [lF]; simp [markL])
      have f2 := hK.frozen (b := w.heap.size + 1) 0 LT1 (by rw [lF]; simp [markL])
      have f3 := hK.frozen (b := w.heap.size + 1) 1 LT1 (by rw [lF]; simp [markL])
      have g3 := hK.cell (b := d) 3 LT2 (by rw [HD.out.ld]; simp [markL])
      rw [A0.out] at f0
      rw [A1.out] at f1
      rw [A2.out] at f2
      rw [A3.out] at f3
      rw [G3.out] at g3
      have s5 := hK.size
      have HM5 := hid hM
      have HK5 := hid hK
      have ls := Nat.lt_of_lt_of_le LT1 s5
      have ls2 := Nat.lt_of_lt_of_le LT2 s5
      clear hM hK
      cases j with
      | zero =>
        go_wp2_with (go_at_call 15; refine (ok_any _ ⟨_, _, _, rfl⟩ _).mono ?_; rintro e w' ⟨rfl, z9, rfl⟩)
        refine bodyPost_ret (v := .agg #[.int .u8 0, .slice none 0 0]) (by simp [results, Tryz.results6, go_sem, ↓IntWalk.iteOmega, *]) rfl ?_
        have hie : i = 1 := by omega
        rw [hie] at HM5
        exact doX_fin (D' := { Q with S := clrN 1 Q.S }) HL.out HB1.out LT1 HK5.out (fun x hx => by unfold markL at hx; unfold tagL; omega) (fun _ _ => rfl) (HD.out.carry HB1.out HK5.out (fun _ _ => rfl) (by simp [markL]) (by simp [markL])) HM5.out (HO.out.carry HB1.out HK5.out (fun _ _ => rfl) (fun x hx h => by unfold tabL at hx; unfold markL at h; omega)) (by (repeat (first | with_reducible exact KeptBut.refl _ _ | with_reducible refine KeptBut.ex ?_ _ | with_reducible refine KeptBut.al ?_ _ | with_reducible refine KeptBut.set' ?_ _ _))) HP.out ⟨Nat.le_succ_of_le HBK.out.1, Nat.le_succ_of_le HBK.out.2.1, clrN_cn HBK.out.2.2⟩ (IntsAt.nil _ _)
      | succ j =>
        have bj : decide (0 < ((j + 1 : Nat) : Int)) = true := by simp
        have MC := hid (mclr_any N (clrN i Q.S) lab _ HM5.out)
        go_wp2_with (go_at_call 25; refine hold ?_)
        unfold Hid
        refine MC.out.mono ?_
        rintro e w5 ⟨rfl, hM5, hk5⟩
        have HM6 := hid hM5
        have HK6 := hid hk5
        clear hM5 hk5
        go_wp2
        go_roundw
        case rel =>
          exact ⟨j, i + 1, by go_num, by omega, HM6.out, HK5.out.trans HK6.out⟩
        case measure => simp [intOf]
  · subst h1
    rw [show clrCount 1 = 1 from rfl]
    go_enter Tryz.func6, Tryz.ntmps6
    go_wp2
    rw [← HW1.out]
    go_loopw [9] (fun x wr => ∃ (j i : Nat), x = .int .i64 (j) ∧ i + j = 1 ∧ MkAt wr lab N (clrN i Q.S) ∧ KeptL lab markL w1 wr) (fun x _ => (intOf x).toNat)
    case atStart => exact ⟨1, 0, rfl, by omega, HM1.out, KeptL.refl _ _ _⟩
    case round =>
      obtain ⟨j, i, rfl, hj, hM, hK⟩ := hrel
      have f0 := hK.cell (b := w.heap.size + 1) 0 LT1 (by rw [lF]; simp [markL])
      have f1 := hK.cell (b := w.heap.size + 1) 1 LT1 (by rw [lF]; simp [markL])
      have f2 := hK.frozen (b := w.heap.size + 1) 0 LT1 (by rw [lF]; simp [markL])
      have f3 := hK.frozen (b := w.heap.size + 1) 1 LT1 (by rw [lF]; simp [markL])
      have g3 := hK.cell (b := d) 3 LT2 (by rw [HD.out.ld]; simp [markL])
      rw [A0.out] at f0
      rw [A1.out] at f1
      rw [A2.out] at f2
      rw [A3.out] at f3
      rw [G3.out] at g3
      have s5 := hK.size
      have HM5 := hid hM
      have HK5 := hid hK
      have ls := Nat.lt_of_lt_of_le LT1 s5
      have ls2 := Nat.lt_of_lt_of_le LT2 s5
      clear hM hK
      cases j with
      | zero =>
        go_wp2_with (go_at_call 15; refine (ok_any _ ⟨_, _, _, rfl⟩ _).mono ?_; rintro e w' ⟨rfl, z9, rfl⟩)
        refine bodyPost_ret (v := .agg #[.int .u8 0, .slice none 0 0]) (by simp [results, Tryz.results6, go_sem, ↓IntWalk.iteOmega, *]) rfl ?_
        have hie : i = 1 := by omega
        rw [hie] at HM5
        exact doX_fin (D' := { Q with S := clrN 1 Q.S }) HL.out HB1.out LT1 HK5.out (fun x hx => by unfold markL at hx; unfold tagL; omega) (fun _ _ => rfl) (HD.out.carry HB1.out HK5.out (fun _ _ => rfl) (by simp [markL]) (by simp [markL])) HM5.out (HO.out.carry HB1.out HK5.out (fun _ _ => rfl) (fun x hx h => by unfold tabL at hx; unfold markL at h; omega)) (by (repeat (first | with_reducible exact KeptBut.refl _ _ | with_reducible refine KeptBut.ex ?_ _ | with_reducible refine KeptBut.al ?_ _ | with_reducible refine KeptBut.set' ?_ _ _))) HP.out ⟨Nat.le_succ_of_le HBK.out.1, Nat.le_succ_of_le HBK.out.2.1, clrN_cn HBK.out.2.2⟩ (IntsAt.nil _ _)
      | succ j =>
        have bj : decide (0 < ((j + 1 : Nat) : Int)) = true := by simp
        have MC := hid (mclr_any N (clrN i Q.S) lab _ HM5.out)
        go_wp2_with (go_at_call 25; refine hold ?_)
        unfold Hid
        refine MC.out.mono ?_
        rintro e w5 ⟨rfl, hM5, hk5⟩
        have HM6 := hid hM5
        have HK6 := hid hk5
        clear hM5 hk5
        go_wp2
        go_roundw
        case rel =>
          exact ⟨j, i + 1, by go_num, by omega, HM6.out, HK5.out.trans HK6.out⟩
        case measure => simp [intOf]
  · obtain ⟨m, rfl⟩ := Int.eq_ofNat_of_zero_le (show 0 ≤ A by omega)
    rw [show clrCount m = m by unfold clrCount; rw [if_neg (by omega), if_neg (by omega)]; rfl]
    go_enter Tryz.func6, Tryz.ntmps6
    go_wp2
    rw [← HW1.out]
    go_loopw [9] (fun x wr => ∃ (j i : Nat), x = .int .i64 (j) ∧ i + j = m ∧ MkAt wr lab N (clrN i Q.S) ∧ KeptL lab markL w1 wr) (fun x _ => (intOf x).toNat)
    case atStart => exact ⟨m, 0, rfl, by omega, HM1.out, KeptL.refl _ _ _⟩
    case round =>
      obtain ⟨j, i, rfl, hj, hM, hK⟩ := hrel
      have f0 := hK.cell (b := w.heap.size + 1) 0 LT1 (by rw [lF]; simp [markL])
      have f1 := hK.cell (b := w.heap.size + 1) 1 LT1 (by rw [lF]; simp [markL])
      have f2 := hK.frozen (b := w.heap.size + 1) 0 LT1 (by rw [lF]; simp [markL])
      have f3 := hK.frozen (b := w.heap.size + 1) 1 LT1 (by rw [lF]; simp [markL])
      have g3 := hK.cell (b := d) 3 LT2 (by rw [HD.out.ld]; simp [markL])
      rw [A0.out] at f0
      rw [A1.out] at f1
      rw [A2.out] at f2
      rw [A3.out] at f3
      rw [G3.out] at g3
      have s5 := hK.size
      have HM5 := hid hM
      have HK5 := hid hK
      have ls := Nat.lt_of_lt_of_le LT1 s5
      have ls2 := Nat.lt_of_lt_of_le LT2 s5
      clear hM hK
      cases j with
      | zero =>
        go_wp2_with (go_at_call 15; refine (ok_any _ ⟨_, _, _, rfl⟩ _).mono ?_; rintro e w' ⟨rfl, z9, rfl⟩)
        refine bodyPost_ret (v := .agg #[.int .u8 0, .slice none 0 0]) (by simp [results, Tryz.results6, go_sem, ↓IntWalk.iteOmega, *]) rfl ?_
        have hie : i = m := by omega
        rw [hie] at HM5
        exact doX_fin (D' := { Q with S := clrN m Q.S }) HL.out HB1.out LT1 HK5.out (fun x hx => by unfold markL at hx; unfold tagL; omega) (fun _ _ => rfl) (HD.out.carry HB1.out HK5.out (fun _ _ => rfl) (by simp [markL]) (by simp [markL])) HM5.out (HO.out.carry HB1.out HK5.out (fun _ _ => rfl) (fun x hx h => by unfold tabL at hx; unfold markL at h; omega)) (by (repeat (first | with_reducible exact KeptBut.refl _ _ | with_reducible refine KeptBut.ex ?_ _ | with_reducible refine KeptBut.al ?_ _ | with_reducible refine KeptBut.set' ?_ _ _))) HP.out ⟨Nat.le_succ_of_le HBK.out.1, Nat.le_succ_of_le HBK.out.2.1, clrN_cn HBK.out.2.2⟩ (IntsAt.nil _ _)
      | succ j =>
        have bj : decide (0 < ((j + 1 : Nat) : Int)) = true := by simp
        have MC := hid (mclr_any N (clrN i Q.S) lab _ HM5.out)
        go_wp2_with (go_at_call 25; refine hold ?_)
        unfold Hid
        refine MC.out.mono ?_
        rintro e w5 ⟨rfl, hM5, hk5⟩
        have HM6 := hid hM5
        have HK6 := hid hk5
        clear hM5 hk5
        go_wp2
        go_roundw
        case rel =>
          exact ⟨j, i + 1, by go_num, by omega, HM6.out, HK5.out.trans HK6.out⟩
        case measure => simp [intOf]
  · subst h1
    rw [show clrCount 600 = 600 from rfl]
    go_enter Tryz.func6, Tryz.ntmps6
    go_wp2
    rw [← HW1.out]
    go_loopw [9] (fun x wr => ∃ (j i : Nat), x = .int .i64 (j) ∧ i + j = 600 ∧ MkAt wr lab N (clrN i Q.S) ∧ KeptL lab markL w1 wr) (fun x _ => (intOf x).toNat)
    case atStart => exact ⟨600, 0, rfl, by omega, HM1.out, KeptL.refl _ _ _⟩
    case round =>
      obtain ⟨j, i, rfl, hj, hM, hK⟩ := hrel
      have f0 := hK.cell (b := w.heap.size + 1) 0 LT1 (by rw [lF]; simp [markL])
      have f1 := hK.cell (b := w.heap.size + 1) 1 LT1 (by rw [lF]; simp [markL])
      have f2 := hK.frozen (b := w.heap.size + 1) 0 LT1 (by rw [lF]; simp [markL])
      have f3 := hK.frozen (b := w.heap.size + 1) 1 LT1 (by rw [lF]; simp [markL])
      have g3 := hK.cell (b := d) 3 LT2 (by rw [HD.out.ld]; simp [markL])
      rw [A0.out] at f0
      rw [A1.out] at f1
      rw [A2.out] at f2
      rw [A3.out] at f3
      rw [G3.out] at g3
      have s5 := hK.size
      have HM5 := hid hM
      have HK5 := hid hK
      have ls := Nat.lt_of_lt_of_le LT1 s5
      have ls2 := Nat.lt_of_lt_of_le LT2 s5
      clear hM hK
      cases j with
      | zero =>
        go_wp2_with (go_at_call 15; refine (ok_any _ ⟨_, _, _, rfl⟩ _).mono ?_; rintro e w' ⟨rfl, z9, rfl⟩)
        refine bodyPost_ret (v := .agg #[.int .u8 0, .slice none 0 0]) (by simp [results, Tryz.results6, go_sem, ↓IntWalk.iteOmega, *]) rfl ?_
        have hie : i = 600 := by omega
        rw [hie] at HM5
        exact doX_fin (D' := { Q with S := clrN 600 Q.S }) HL.out HB1.out LT1 HK5.out (fun x hx => by unfold markL at hx; unfold tagL; omega) (fun _ _ => rfl) (HD.out.carry HB1.out HK5.out (fun _ _ => rfl) (by simp [markL]) (by simp [markL])) HM5.out (HO.out.carry HB1.out HK5.out (fun _ _ => rfl) (fun x hx h => by unfold tabL at hx; unfold markL at h; omega)) (by (repeat (first | with_reducible exact KeptBut.refl _ _ | with_reducible refine KeptBut.ex ?_ _ | with_reducible refine KeptBut.al ?_ _ | with_reducible refine KeptBut.set' ?_ _ _))) HP.out ⟨Nat.le_succ_of_le HBK.out.1, Nat.le_succ_of_le HBK.out.2.1, clrN_cn HBK.out.2.2⟩ (IntsAt.nil _ _)
      | succ j =>
        have bj : decide (0 < ((j + 1 : Nat) : Int)) = true := by simp
        have MC := hid (mclr_any N (clrN i Q.S) lab _ HM5.out)
        go_wp2_with (go_at_call 25; refine hold ?_)
        unfold Hid
        refine MC.out.mono ?_
        rintro e w5 ⟨rfl, hM5, hk5⟩
        have HM6 := hid hM5
        have HK6 := hid hk5
        clear hM5 hk5
        go_wp2
        go_roundw
        case rel =>
          exact ⟨j, i + 1, by go_num, by omega, HM6.out, HK5.out.trans HK6.out⟩
        case measure => simp [intOf]
  · rw [show clrCount A = 600 by unfold clrCount; rw [if_neg (by omega), if_pos h1]]
    go_enter Tryz.func6, Tryz.ntmps6
    go_wp2
    rw [← HW1.out]
    go_loopw [9] (fun x wr => ∃ (j i : Nat), x = .int .i64 (j) ∧ i + j = 600 ∧ MkAt wr lab N (clrN i Q.S) ∧ KeptL lab markL w1 wr) (fun x _ => (intOf x).toNat)
    case atStart => exact ⟨600, 0, rfl, by omega, HM1.out, KeptL.refl _ _ _⟩
    case round =>
      obtain ⟨j, i, rfl, hj, hM, hK⟩ := hrel
      have f0 := hK.cell (b := w.heap.size + 1) 0 LT1 (by rw [lF]; simp [markL])
      have f1 := hK.cell (b := w.heap.size + 1) 1 LT1 (by rw [lF]; simp [markL])
      have f2 := hK.frozen (b := w.heap.size + 1) 0 LT1 (by rw [lF]; simp [markL])
      have f3 := hK.frozen (b := w.heap.size + 1) 1 LT1 (by rw [lF]; simp [markL])
      have g3 := hK.cell (b := d) 3 LT2 (by rw [HD.out.ld]; simp [markL])
      rw [A0.out] at f0
      rw [A1.out] at f1
      rw [A2.out] at f2
      rw [A3.out] at f3
      rw [G3.out] at g3
      have s5 := hK.size
      have HM5 := hid hM
      have HK5 := hid hK
      have ls := Nat.lt_of_lt_of_le LT1 s5
      have ls2 := Nat.lt_of_lt_of_le LT2 s5
      clear hM hK
      cases j with
      | zero =>
        go_wp2_with (go_at_call 15; refine (ok_any _ ⟨_, _, _, rfl⟩ _).mono ?_; rintro e w' ⟨rfl, z9, rfl⟩)
        refine bodyPost_ret (v := .agg #[.int .u8 0, .slice none 0 0]) (by simp [results, Tryz.results6, go_sem, ↓IntWalk.iteOmega, *]) rfl ?_
        have hie : i = 600 := by omega
        rw [hie] at HM5
        exact doX_fin (D' := { Q with S := clrN 600 Q.S }) HL.out HB1.out LT1 HK5.out (fun x hx => by unfold markL at hx; unfold tagL; omega) (fun _ _ => rfl) (HD.out.carry HB1.out HK5.out (fun _ _ => rfl) (by simp [markL]) (by simp [markL])) HM5.out (HO.out.carry HB1.out HK5.out (fun _ _ => rfl) (fun x hx h => by unfold tabL at hx; unfold markL at h; omega)) (by (repeat (first | with_reducible exact KeptBut.refl _ _ | with_reducible refine KeptBut.ex ?_ _ | with_reducible refine KeptBut.al ?_ _ | with_reducible refine KeptBut.set' ?_ _ _))) HP.out ⟨Nat.le_succ_of_le HBK.out.1, Nat.le_succ_of_le HBK.out.2.1, clrN_cn HBK.out.2.2⟩ (IntsAt.nil _ _)
      | succ j =>
        have bj : decide (0 < ((j + 1 : Nat) : Int)) = true := by simp
        have MC := hid (mclr_any N (clrN i Q.S) lab _ HM5.out)
        go_wp2_with (go_at_call 25; refine hold ?_)
        unfold Hid
        refine MC.out.mono ?_
        rintro e w5 ⟨rfl, hM5, hk5⟩
        have HM6 := hid hM5
        have HK6 := hid hk5
        clear hM5 hk5
        go_wp2
        go_roundw
        case rel =>
          exact ⟨j, i + 1, by go_num, by omega, HM6.out, HK5.out.trans HK6.out⟩
        case measure => simp [intOf]

theorem DX.setM {w : World} {lab : Nat → Nat} {d nx : Nat} {tv mv mv' : Value} {L : List Ent} (h : DX w lab d tv mv L nx) : DX (w.setCell ⟨d, 3, none⟩ mv') lab d tv mv' L nx := by
  have oth : ∀ i, i ≠ 3 → (w.setCell ⟨d, 3, none⟩ mv').cell? ⟨d, i, none⟩ = w.cell? ⟨d, i, none⟩ := fun i hi => World.cell?_setCell_other _ _ _ _ (fun e => hi (by have := congrArg Addr.off e; simpa using this.symm))
  obtain ⟨ao, cap, h1, h5, h6⟩ := h.hp
  refine ⟨h.ld, by simpa using h.lt, by rw [oth 0 (by omega)]; exact h.c0, by rw [oth 2 (by omega)]; exact h.c2, World.cell?_setCell_same _ _ _ h.c3, fun i hi => by rw [World.frozen?_setCell]; exact h.fz i hi, ao, cap, by rw [oth 1 (by omega)]; exact h1, h5, ?_⟩
  rcases h6 with h6 | ⟨b, e1, e2, e3, e4⟩
  · exact Or.inl h6
  · exact Or.inr ⟨b, e1, e2, e3, HX.kept e4 ((KeptBut.refl d w).set' _ _) (fun e => by have := h.ld; rw [← e, e2] at this; omega)⟩
theorem DX.setT {w : World} {lab : Nat → Nat} {d nx : Nat} {tv mv tv' : Value} {L : List Ent} (h : DX w lab d tv mv L nx) : DX (w.setCell ⟨d, 0, none⟩ tv') lab d tv' mv L nx := by
  have oth : ∀ i, i ≠ 0 → (w.setCell ⟨d, 0, none⟩ tv').cell? ⟨d, i, none⟩ = w.cell? ⟨d, i, none⟩ := fun i hi => World.cell?_setCell_other _ _ _ _ (fun e => hi (by have := congrArg Addr.off e; simpa using this.symm))
  obtain ⟨ao, cap, h1, h5, h6⟩ := h.hp
  refine ⟨h.ld, by simpa using h.lt, World.cell?_setCell_same _ _ _ h.c0, by rw [oth 2 (by omega)]; exact h.c2, by rw [oth 3 (by omega)]; exact h.c3, fun i hi => by rw [World.frozen?_setCell]; exact h.fz i hi, ao, cap, by rw [oth 1 (by omega)]; exact h1, h5, ?_⟩
  rcases h6 with h6 | ⟨b, e1, e2, e3, e4⟩
  · exact Or.inl h6
  · exact Or.inr ⟨b, e1, e2, e3, HX.kept e4 ((KeptBut.refl d w).set' _ _) (fun e => by have := h.ld; rw [← e, e2] at this; omega)⟩
theorem TabO.rest {w w' : World} {lab : Nat → Nat} {tv : Value} {O : Option TabS} (h : TabO w lab tv O) (hs : w.heap.size ≤ w'.heap.size) (hb : ∀ j, j < w.heap.size → tabL (lab j) → w'.heap[j]? = w.heap[j]?) : TabO w' lab tv O := by
  cases O with
  | none => exact h
  | some T =>
    obtain ⟨M, h1, h2, h3⟩ := h
    exact ⟨M, h1, h2.of hs (fun _ _ => rfl) hb, h3⟩
/-- A cell of the desk's block is written behind a call, and the answer's. -/
theorem doX_set {w W w5 w6 : World} {lab lab5 : Nat → Nat} {d k i : Nat} {tv x : Value} {N' : MkM} {D' : DkS} {c : Int} {vals : List Int} {v : Value}
    (hld : lab d = 1) (hdl : d < w.heap.size) (HL : ∀ j, w.heap.size ≤ j → lab j = 0) (hB : Below w.heap.size w W) (hs : w.heap.size + 1 < W.heap.size) (hB5 : Below W.heap.size W w5) (hl5 : ∀ j, j < W.heap.size → lab5 j = lab j)
    (hD : DX (w5.setCell ⟨d, i, none⟩ x) lab5 d tv (.pointer (some ⟨N'.m, 0, none⟩)) D'.L D'.nx) (hM : MkAt w5 lab5 N' D'.S) (hO : TabO w5 lab5 tv D'.O) (hkb : KeptBut (w.heap.size + 1) (w5.setCell ⟨d, i, none⟩ x) w6) (hp : isHeap D'.L) (hbk : D'.L.length ≤ k + 1 ∧ D'.nx ≤ k + 1 ∧ D'.S.cn ≤ k + 1) (hv : IntsAt w6 w.heap.size v vals) :
    doXPost lab d k ((c, vals), D') w (.returned (.agg #[.int .u8 c, v])) w6 := by
  have s1 := hB.size
  have s5 := hB5.size
  have hk : KeptL lab (fun x => x = 1) W (w5.setCell ⟨d, i, none⟩ x) := (KeptL.of_below hB5).set hld _
  have ld5 : lab5 d = 1 := by rw [hl5 d (by omega)]; exact hld
  have key : ∀ j, lab5 j ≠ 1 → (w5.setCell ⟨d, i, none⟩ x).heap[j]? = w5.heap[j]? := fun j hj => Below.heap_setCell _ _ _ _ (fun e => hj (by have e2 : j = d := e; rw [e2]; exact ld5))
  exact doX_fin HL hB hs hk (fun x hx => by unfold tagL; omega) hl5 hD (hM.of (by simp) (fun _ _ => rfl) (fun j hj hl => key j (by omega))) (hO.rest (by simp) (fun j hj hl => key j (by unfold tabL at hl; omega))) hkb hp hbk hv
end Go.Proofs.Qxb6500717aGreat
