/-
  'do': a new table; no table; the marks are cleared.
-/
import Derived.Test.Qxb6500717aGreatDo4
namespace Go.Proofs.Qxb6500717aGreat
open Go.RowKit
set_option linter.unusedSimpArgs false
set_option linter.unusedVariables false
set_option maxRecDepth 20000
set_option maxHeartbeats 4000000





theorem doPost.code {lab : Nat → Nat} {d k : Nat} {Cd : Int → Prop} {O : Option TabS} {w w' : World} {c : Int} {v : Value} (hc : Cd c) (h : doPost lab d k (fun _ => True) O w (.returned (.agg #[.int .u8 c, v])) w') : doPost lab d k Cd O w (.returned (.agg #[.int .u8 c, v])) w' := by
  obtain ⟨c', v', lab', h1, hv, _, h3⟩ := h
  simp only [Ending.returned.injEq, Value.agg.injEq, Array.mk.injEq, List.cons.injEq, and_true] at h1
  exact ⟨c, v, lab', rfl, by rw [h1.2]; exact hv, hc, h3⟩
def stepNew (O : Option TabS) (A B C : Int) : Int × Option TabS := if newOk A B C then (0, some (TabS.new A.toNat B.toNat C.toNat)) else (2, O)
theorem Con.new (nc nr cap : Nat) : Con (TabS.new nc nr cap) := by
  have hc : ∀ n, cntS (fun _ => (-1 : Int)) n = 0 := fun n => by
    induction n with
    | zero => rfl
    | succ n ih => simp only [cntS]; rw [ih]; rfl
  have hs : ∀ n, sumR (TabS.new nc nr cap).own n = 0 := fun n => by
    induction n with
    | zero => rfl
    | succ n ih =>
      simp only [sumR]
      rw [ih]
      simp only [TabS.own, TabS.new]
      rw [hc]; rfl
  refine ⟨(hs nr).symm, fun r s c hr h2 h3 => ?_, fun r s c h2 h3 h4 => ?_⟩
  · have : (-1 : Int) = (c : Int) := h3
    omega
  · have : (0 : Int) = ((r + 1 : Nat) : Int) := h4
    omega
theorem do_init (A B C D : Int) (ao : Option Addr) (n cap : Nat) (lab : Nat → Nat) (d k : Nat) (O : Option TabS) (w : World) (h : Desk w lab d k O) : Calls Tryz.prog 6 #[.pointer (some ⟨d, 0, none⟩), .agg #[.int .i64 (0), .int .i64 (A), .int .i64 (B), .int .i64 (C), .int .i64 (D), .slice ao n cap]] w (doPost lab d k (fun c => c = (stepNew O A B C).1) (stepNew O A B C).2 w) := by
  obtain ⟨⟨tv, N, S, hd, hm, hcn, ht⟩, hl⟩ := h
  have HD := hid hd
  have HM := hid hm
  have HCN := hid hcn
  have HO := hid ht
  have HL := hid hl
  have ld := hd.lt
  have lF := hl (w.heap.size + 1) (by omega)
  clear hd hm hcn ht hl
  cases hh : newOk A B C with
  | false =>
    have e : stepNew O A B C = (2, O) := by simp [stepNew, hh]
    rw [e]
    have NN := hid (fun w1 => new_no A B C w1 hh)
    go_enter Tryz.func6, Tryz.ntmps6
    go_wp2_with (go_at_call 13; refine (NN.out _).mono ?_; rintro e w' ⟨rfl, rfl⟩)
    refine bodyPost_ret (v := .agg #[.int .u8 2, .slice none 0 0]) (by simp [results, Tryz.results6, go_sem, ↓IntWalk.iteOmega, *]) rfl ?_
    exact doPost.code rfl (do_finM (w1 := World.alloc _ _) (w5 := World.alloc _ _) (HD.out.more (Nat.le_succ k)) HO.out HL.out (by (repeat (first | with_reducible exact Below.rf _ | with_reducible exact World.below_ext _ _ | with_reducible refine Below.ex ?_ _ | with_reducible refine Below.al ?_ _ | with_reducible refine Below.setCell ?_ (by simp) _ | with_reducible refine Below.drew ?_))) (by simp <;> omega) (KeptL.refl lab _ _) (HM.out.below (by (repeat (first | with_reducible exact Below.rf _ | with_reducible exact World.below_ext _ _ | with_reducible refine Below.ex ?_ _ | with_reducible refine Below.al ?_ _ | with_reducible refine Below.setCell ?_ (by simp) _ | with_reducible refine Below.drew ?_)))) (Nat.le_succ_of_le HCN.out) (KeptBut.refl _ _))
  | true =>
    have e : stepNew O A B C = (0, some (TabS.new A.toNat B.toNat C.toNat)) := by simp [stepNew, hh]
    rw [e]
    have hh' : (1 ≤ A ∧ A ≤ 150) ∧ (1 ≤ B ∧ B ≤ 6) ∧ (1 ≤ C ∧ C ≤ 1536) := by simpa [newOk] using hh
    obtain ⟨nc, rfl⟩ := Int.eq_ofNat_of_zero_le (show 0 ≤ A by omega)
    obtain ⟨nr, rfl⟩ := Int.eq_ofNat_of_zero_le (show 0 ≤ B by omega)
    obtain ⟨cp, rfl⟩ := Int.eq_ofNat_of_zero_le (show 0 ≤ C by omega)
    simp only [Int.toNat_natCast]
    have d1 := HD.out.fz 0 (by omega)
    have c0 := HD.out.c0
    have NN := hid (fun w1 => new_any nc nr cp (by omega) (by omega) (by omega) lab w1)
    clear hh hh' e
    go_enter Tryz.func6, Tryz.ntmps6
    go_wp2_with (go_at_call 13; refine hold ?_)
    unfold Hid
    refine (NN.out _).mono ?_
    rintro e w5 ⟨M', lab5, rfl, hT5, hl5, hB5⟩
    have e1 := hB5.block d (by simp; omega)
    have g1 : w5.cell? ⟨d, 0, none⟩ = some tv := by rw [World.cell?_of_block e1]; simp [go_sem, ↓IntWalk.iteOmega, c0]
    have g2 : w5.frozen? ⟨d, 0, none⟩ = false := by rw [World.frozen?_of_block e1]; simp [go_sem, ↓IntWalk.iteOmega, d1]
    have e2 := hB5.block (w.heap.size + 1) (by simp)
    have f0 : w5.cell? ⟨w.heap.size + 1, 0, none⟩ = some (.int .u8 0) := by rw [World.cell?_of_block e2]; simp [go_sem, ↓IntWalk.iteOmega]
    have f1 : w5.cell? ⟨w.heap.size + 1, 1, none⟩ = some (.slice none 0 0) := by rw [World.cell?_of_block e2]; simp [go_sem, ↓IntWalk.iteOmega]
    have f2 : w5.frozen? ⟨w.heap.size + 1, 0, none⟩ = false := by rw [World.frozen?_of_block e2]; simp [go_sem, ↓IntWalk.iteOmega]
    have f3 : w5.frozen? ⟨w.heap.size + 1, 1, none⟩ = false := by rw [World.frozen?_of_block e2]; simp [go_sem, ↓IntWalk.iteOmega]
    have s5 := hB5.size
    simp at s5
    have HT5 := hid hT5
    have HL5 := hid hl5
    have HB5 := hid hB5
    clear hT5 hl5 hB5 e1 e2 c0 d1
    go_wp2
    refine bodyPost_ret (v := .agg #[.int .u8 0, .slice none 0 0]) (by simp [results, Tryz.results6, go_sem, ↓IntWalk.iteOmega, *]) rfl ?_
    have hBx : Below w.heap.size w w5 := Below.trans (by (repeat (first | with_reducible exact Below.rf _ | with_reducible exact World.below_ext _ _ | with_reducible refine Below.ex ?_ _ | with_reducible refine Below.al ?_ _ | with_reducible refine Below.setCell ?_ (by simp) _ | with_reducible refine Below.drew ?_))) (HB5.out.mono (by simp; omega))
    have hlx : ∀ j, j < w.heap.size + 2 → lab5 j = lab j := fun j hj => HL5.out j (by simp; omega)
    exact do_finD (Cd := fun c => c = 0) (O' := some (TabS.new nc nr cp)) HD.out.ld ld HL.out hBx (by omega) hlx (((HD.out.more (Nat.le_succ k)).of hBx.size (fun j hj => hlx j (by omega)) (fun j hj _ => hBx.block j hj)).setT) (HM.out.of hBx.size (fun j hj => hlx j (by omega)) (fun j hj _ => hBx.block j hj)) (by have := HCN.out; omega) ⟨M', rfl, HT5.out, Con.new _ _ _⟩ (by (repeat (first | with_reducible exact KeptBut.refl _ _ | with_reducible refine KeptBut.ex ?_ _ | with_reducible refine KeptBut.al ?_ _ | with_reducible refine KeptBut.set' ?_ _ _))) rfl

/-- No table. -/
theorem do_none (K A B C D : Int) (ao : Option Addr) (n cap : Nat) (lab : Nat → Nat) (d k : Nat) (w : World) (h : Desk w lab d k none) (hK : K ≠ 0 ∧ ¬ (14 ≤ K ∧ K ≤ 23)) : Calls Tryz.prog 6 #[.pointer (some ⟨d, 0, none⟩), .agg #[.int .i64 (K), .int .i64 (A), .int .i64 (B), .int .i64 (C), .int .i64 (D), .slice ao n cap]] w (doPost lab d k (fun c => c = 1) none w) := by
  obtain ⟨⟨tv, N, S, hd, hm, hcn, ht⟩, hl⟩ := h
  have HD := hid hd
  have HM := hid hm
  have HCN := hid hcn
  have HO := hid ht
  have HL := hid hl
  have ld := hd.lt
  have lF := hl (w.heap.size + 1) (by omega)
  clear hd hm hcn ht hl
  have c0 := HD.out.c0
  have etv : tv = .pointer none := HO.out
  rw [etv] at c0
  have k0 : (K == 0) = false := by simp; omega
  have k14 : (K == 14) = false := by simp; omega
  have k15 : (K == 15) = false := by simp; omega
  have k16 : (K == 16) = false := by simp; omega
  have k17 : (K == 17) = false := by simp; omega
  have k18 : (K == 18) = false := by simp; omega
  have k19 : (K == 19) = false := by simp; omega
  have k20 : (K == 20) = false := by simp; omega
  have k21 : (K == 21) = false := by simp; omega
  have k22 : (K == 22) = false := by simp; omega
  have k23 : (K == 23) = false := by simp; omega
  clear hK
  go_enter Tryz.func6, Tryz.ntmps6
  go_wp2
  refine bodyPost_ret (v := .agg #[.int .u8 1, .slice none 0 0]) (by simp [results, Tryz.results6, go_sem, ↓IntWalk.iteOmega, *]) rfl ?_
  exact doPost.code rfl (do_finM (w1 := World.alloc _ _) (w5 := World.alloc _ _) (HD.out.more (Nat.le_succ k)) HO.out HL.out (by (repeat (first | with_reducible exact Below.rf _ | with_reducible exact World.below_ext _ _ | with_reducible refine Below.ex ?_ _ | with_reducible refine Below.al ?_ _ | with_reducible refine Below.setCell ?_ (by simp) _ | with_reducible refine Below.drew ?_))) (by simp <;> omega) (KeptL.refl lab _ _) (HM.out.below (by (repeat (first | with_reducible exact Below.rf _ | with_reducible exact World.below_ext _ _ | with_reducible refine Below.ex ?_ _ | with_reducible refine Below.al ?_ _ | with_reducible refine Below.setCell ?_ (by simp) _ | with_reducible refine Below.drew ?_)))) (Nat.le_succ_of_le HCN.out) (KeptBut.refl _ _))


theorem do_mclear (A B C D : Int) (ao : Option Addr) (n cap : Nat) (lab : Nat → Nat) (d k : Nat) (O : Option TabS) (w : World) (h : Desk w lab d k O) (hk9 : k ≤ 900000) : Calls Tryz.prog 6 #[.pointer (some ⟨d, 0, none⟩), .agg #[.int .i64 (23), .int .i64 (A), .int .i64 (B), .int .i64 (C), .int .i64 (D), .slice ao n cap]] w (doPost lab d k (fun _ => True) O w) := by
  obtain ⟨⟨tv, N, S, hd, hm, hcn, ht⟩, hl⟩ := h
  have HD := hid hd
  have HM := hid hm
  have HCN := hid hcn
  have HO := hid ht
  have HL := hid hl
  have ld := hd.lt
  have lF := hl (w.heap.size + 1) (by omega)
  clear hd hm hcn ht hl
  have c3 := HD.out.c3
  have hmx : (A < 1) ∨ (A = 1) ∨ (1 < A ∧ A < 600) ∨ A = 600 ∨ 600 < A := by omega
  have HMX := hid hmx
  clear hmx
  obtain ⟨w1, hw1⟩ : ∃ w1, w1 = (w.alloc (.cells #[.int .i64 (23), .int .i64 (A), .int .i64 (B), .int .i64 (C), .int .i64 (D), .slice ao n cap] 36)).alloc (.cells #[.int .u8 0, .slice none 0 0] 39) := ⟨_, rfl⟩
  have B1 : Below w.heap.size w w1 := by rw [hw1]; (repeat (first | with_reducible exact Below.rf _ | with_reducible exact World.below_ext _ _ | with_reducible refine Below.ex ?_ _ | with_reducible refine Below.al ?_ _ | with_reducible refine Below.setCell ?_ (by simp) _ | with_reducible refine Below.drew ?_))
  have HB1 := hid B1
  have HM1 := hid (HM.out.below B1)
  have LT1 : w.heap.size + 1 < w1.heap.size := by rw [hw1]; simp
  have LT2 : d < w1.heap.size := by omega
  have A0 := hid (show w1.cell? ⟨w.heap.size + 1, 0, none⟩ = some (.int .u8 0) by rw [hw1]; simp [go_sem, ↓IntWalk.iteOmega])
  have A1 := hid (show w1.cell? ⟨w.heap.size + 1, 1, none⟩ = some (.slice none 0 0) by rw [hw1]; simp [go_sem, ↓IntWalk.iteOmega])
  have A2 := hid (show w1.frozen? ⟨w.heap.size + 1, 0, none⟩ = false by rw [hw1]; simp [go_sem, ↓IntWalk.iteOmega])
  have A3 := hid (show w1.frozen? ⟨w.heap.size + 1, 1, none⟩ = false by rw [hw1]; simp [go_sem, ↓IntWalk.iteOmega])
  have G3 := hid (show w1.cell? ⟨d, 3, none⟩ = some (.pointer (some ⟨N.m, 0, none⟩)) by rw [hw1]; simp [go_sem, ↓IntWalk.iteOmega, c3])
  have HW1 := hid hw1
  clear B1 hw1 c3
  rcases HMX.out with h1 | h1 | h1 | h1 | h1
  · go_enter Tryz.func6, Tryz.ntmps6
    go_wp2
    rw [← HW1.out]
    go_loopw [9] (fun x wr => ∃ (j : Nat) (S' : MkS), x = .int .i64 (j) ∧ j ≤ 1 ∧ MkAt wr lab N S' ∧ S'.cn ≤ k + 1 ∧ KeptL lab markL w1 wr) (fun x _ => (intOf x).toNat)
    case atStart => exact ⟨1, S, rfl, by omega, HM1.out, by have := HCN.out; omega, KeptL.refl _ _ _⟩
    case round =>
      obtain ⟨j, S', rfl, hj, hM, hc, hK⟩ := hrel
      have f0 := hK.cell (b := w.heap.size + 1) 0 LT1 (by rw [lF]; simp [markL])
      have f1 := hK.cell (b := w.heap.size + 1) 1 LT1 (by rw [lF]; simp [markL])
      have f2 := hK.frozen (b := w.heap.size + 1) 0 LT1 (by rw [lF]; simp [markL])
      have f3 := hK.frozen (b := w.heap.size + 1) 1 LT1 (by rw [lF]; simp [markL])
      have g3 := hK.cell (b := d) 3 LT2 (by rw [HD.out.ld]; simp [markL])
      rw [A0.out] at f0
      rw [A1.out] at f1
      rw [A2.out] at f2
      rw [A3.out] at f3
      rw [G3.out] at g3
      have s5 := hK.size
      have HM5 := hid hM
      have HK5 := hid hK
      have HC5 := hid hc
      have ls := Nat.lt_of_lt_of_le LT1 s5
      have ls2 := Nat.lt_of_lt_of_le LT2 s5
      clear hM hK hc
      cases j with
      | zero =>
        go_wp2_with (go_at_call 15; refine (ok_any _ ⟨_, _, _, rfl⟩ _).mono ?_; rintro e w' ⟨rfl, z2, rfl⟩)
        refine bodyPost_ret (v := .agg #[.int .u8 0, .slice none 0 0]) (by simp [results, Tryz.results6, go_sem, ↓IntWalk.iteOmega, *]) rfl ?_
        exact do_finM (HD.out.more (Nat.le_succ k)) HO.out HL.out HB1.out LT1 HK5.out HM5.out HC5.out (by (repeat (first | with_reducible exact KeptBut.refl _ _ | with_reducible refine KeptBut.ex ?_ _ | with_reducible refine KeptBut.al ?_ _ | with_reducible refine KeptBut.set' ?_ _ _)))
      | succ j =>
        have bj : decide (0 < ((j + 1 : Nat) : Int)) = true := by simp
        have MC := hid (mclr_any N S' lab _ HM5.out)
        go_wp2_with (go_at_call 25; refine hold ?_)
        unfold Hid
        refine MC.out.mono ?_
        rintro e w5 ⟨rfl, hM5, hk5⟩
        have HM6 := hid hM5
        have HK6 := hid hk5
        clear hM5 hk5
        go_wp2
        go_roundw
        case rel =>
          refine ⟨j, _, by go_num, by omega, HM6.out, ?_, HK5.out.trans HK6.out⟩
          unfold MkS.clr
          split <;> simp
        case measure => simp [intOf]
  · subst h1
    go_enter Tryz.func6, Tryz.ntmps6
    go_wp2
    rw [← HW1.out]
    go_loopw [9] (fun x wr => ∃ (j : Nat) (S' : MkS), x = .int .i64 (j) ∧ j ≤ 1 ∧ MkAt wr lab N S' ∧ S'.cn ≤ k + 1 ∧ KeptL lab markL w1 wr) (fun x _ => (intOf x).toNat)
    case atStart => exact ⟨1, S, rfl, by omega, HM1.out, by have := HCN.out; omega, KeptL.refl _ _ _⟩
    case round =>
      obtain ⟨j, S', rfl, hj, hM, hc, hK⟩ := hrel
      have f0 := hK.cell (b := w.heap.size + 1) 0 LT1 (by rw [lF]; simp [markL])
      have f1 := hK.cell (b := w.heap.size + 1) 1 LT1 (by rw [lF]; simp [markL])
      have f2 := hK.frozen (b := w.heap.size + 1) 0 LT1 (by rw [lF]; simp [markL])
      have f3 := hK.frozen (b := w.heap.size + 1) 1 LT1 (by rw [lF]; simp [markL])
      have g3 := hK.cell (b := d) 3 LT2 (by rw [HD.out.ld]; simp [markL])
      rw [A0.out] at f0
      rw [A1.out] at f1
      rw [A2.out] at f2
      rw [A3.out] at f3
      rw [G3.out] at g3
      have s5 := hK.size
      have HM5 := hid hM
      have HK5 := hid hK
      have HC5 := hid hc
      have ls := Nat.lt_of_lt_of_le LT1 s5
      have ls2 := Nat.lt_of_lt_of_le LT2 s5
      clear hM hK hc
      cases j with
      | zero =>
        go_wp2_with (go_at_call 15; refine (ok_any _ ⟨_, _, _, rfl⟩ _).mono ?_; rintro e w' ⟨rfl, z2, rfl⟩)
        refine bodyPost_ret (v := .agg #[.int .u8 0, .slice none 0 0]) (by simp [results, Tryz.results6, go_sem, ↓IntWalk.iteOmega, *]) rfl ?_
        exact do_finM (HD.out.more (Nat.le_succ k)) HO.out HL.out HB1.out LT1 HK5.out HM5.out HC5.out (by (repeat (first | with_reducible exact KeptBut.refl _ _ | with_reducible refine KeptBut.ex ?_ _ | with_reducible refine KeptBut.al ?_ _ | with_reducible refine KeptBut.set' ?_ _ _)))
      | succ j =>
        have bj : decide (0 < ((j + 1 : Nat) : Int)) = true := by simp
        have MC := hid (mclr_any N S' lab _ HM5.out)
        go_wp2_with (go_at_call 25; refine hold ?_)
        unfold Hid
        refine MC.out.mono ?_
        rintro e w5 ⟨rfl, hM5, hk5⟩
        have HM6 := hid hM5
        have HK6 := hid hk5
        clear hM5 hk5
        go_wp2
        go_roundw
        case rel =>
          refine ⟨j, _, by go_num, by omega, HM6.out, ?_, HK5.out.trans HK6.out⟩
          unfold MkS.clr
          split <;> simp
        case measure => simp [intOf]
  · obtain ⟨m, rfl⟩ := Int.eq_ofNat_of_zero_le (show 0 ≤ A by omega)
    go_enter Tryz.func6, Tryz.ntmps6
    go_wp2
    rw [← HW1.out]
    go_loopw [9] (fun x wr => ∃ (j : Nat) (S' : MkS), x = .int .i64 (j) ∧ j ≤ m ∧ MkAt wr lab N S' ∧ S'.cn ≤ k + 1 ∧ KeptL lab markL w1 wr) (fun x _ => (intOf x).toNat)
    case atStart => exact ⟨m, S, rfl, by omega, HM1.out, by have := HCN.out; omega, KeptL.refl _ _ _⟩
    case round =>
      obtain ⟨j, S', rfl, hj, hM, hc, hK⟩ := hrel
      have f0 := hK.cell (b := w.heap.size + 1) 0 LT1 (by rw [lF]; simp [markL])
      have f1 := hK.cell (b := w.heap.size + 1) 1 LT1 (by rw [lF]; simp [markL])
      have f2 := hK.frozen (b := w.heap.size + 1) 0 LT1 (by rw [lF]; simp [markL])
      have f3 := hK.frozen (b := w.heap.size + 1) 1 LT1 (by rw [lF]; simp [markL])
      have g3 := hK.cell (b := d) 3 LT2 (by rw [HD.out.ld]; simp [markL])
      rw [A0.out] at f0
      rw [A1.out] at f1
      rw [A2.out] at f2
      rw [A3.out] at f3
      rw [G3.out] at g3
      have s5 := hK.size
      have HM5 := hid hM
      have HK5 := hid hK
      have HC5 := hid hc
      have ls := Nat.lt_of_lt_of_le LT1 s5
      have ls2 := Nat.lt_of_lt_of_le LT2 s5
      clear hM hK hc
      cases j with
      | zero =>
        go_wp2_with (go_at_call 15; refine (ok_any _ ⟨_, _, _, rfl⟩ _).mono ?_; rintro e w' ⟨rfl, z2, rfl⟩)
        refine bodyPost_ret (v := .agg #[.int .u8 0, .slice none 0 0]) (by simp [results, Tryz.results6, go_sem, ↓IntWalk.iteOmega, *]) rfl ?_
        exact do_finM (HD.out.more (Nat.le_succ k)) HO.out HL.out HB1.out LT1 HK5.out HM5.out HC5.out (by (repeat (first | with_reducible exact KeptBut.refl _ _ | with_reducible refine KeptBut.ex ?_ _ | with_reducible refine KeptBut.al ?_ _ | with_reducible refine KeptBut.set' ?_ _ _)))
      | succ j =>
        have bj : decide (0 < ((j + 1 : Nat) : Int)) = true := by simp
        have MC := hid (mclr_any N S' lab _ HM5.out)
        go_wp2_with (go_at_call 25; refine hold ?_)
        unfold Hid
        refine MC.out.mono ?_
        rintro e w5 ⟨rfl, hM5, hk5⟩
        have HM6 := hid hM5
        have HK6 := hid hk5
        clear hM5 hk5
        go_wp2
        go_roundw
        case rel =>
          refine ⟨j, _, by go_num, by omega, HM6.out, ?_, HK5.out.trans HK6.out⟩
          unfold MkS.clr
          split <;> simp
        case measure => simp [intOf]
  · subst h1
    go_enter Tryz.func6, Tryz.ntmps6
    go_wp2
    rw [← HW1.out]
    go_loopw [9] (fun x wr => ∃ (j : Nat) (S' : MkS), x = .int .i64 (j) ∧ j ≤ 600 ∧ MkAt wr lab N S' ∧ S'.cn ≤ k + 1 ∧ KeptL lab markL w1 wr) (fun x _ => (intOf x).toNat)
    case atStart => exact ⟨600, S, rfl, by omega, HM1.out, by have := HCN.out; omega, KeptL.refl _ _ _⟩
    case round =>
      obtain ⟨j, S', rfl, hj, hM, hc, hK⟩ := hrel
      have f0 := hK.cell (b := w.heap.size + 1) 0 LT1 (by rw [lF]; simp [markL])
      have f1 := hK.cell (b := w.heap.size + 1) 1 LT1 (by rw [lF]; simp [markL])
      have f2 := hK.frozen (b := w.heap.size + 1) 0 LT1 (by rw [lF]; simp [markL])
      have f3 := hK.frozen (b := w.heap.size + 1) 1 LT1 (by rw [lF]; simp [markL])
      have g3 := hK.cell (b := d) 3 LT2 (by rw [HD.out.ld]; simp [markL])
      rw [A0.out] at f0
      rw [A1.out] at f1
      rw [A2.out] at f2
      rw [A3.out] at f3
      rw [G3.out] at g3
      have s5 := hK.size
      have HM5 := hid hM
      have HK5 := hid hK
      have HC5 := hid hc
      have ls := Nat.lt_of_lt_of_le LT1 s5
      have ls2 := Nat.lt_of_lt_of_le LT2 s5
      clear hM hK hc
      cases j with
      | zero =>
        go_wp2_with (go_at_call 15; refine (ok_any _ ⟨_, _, _, rfl⟩ _).mono ?_; rintro e w' ⟨rfl, z2, rfl⟩)
        refine bodyPost_ret (v := .agg #[.int .u8 0, .slice none 0 0]) (by simp [results, Tryz.results6, go_sem, ↓IntWalk.iteOmega, *]) rfl ?_
        exact do_finM (HD.out.more (Nat.le_succ k)) HO.out HL.out HB1.out LT1 HK5.out HM5.out HC5.out (by (repeat (first | with_reducible exact KeptBut.refl _ _ | with_reducible refine KeptBut.ex ?_ _ | with_reducible refine KeptBut.al ?_ _ | with_reducible refine KeptBut.set' ?_ _ _)))
      | succ j =>
        have bj : decide (0 < ((j + 1 : Nat) : Int)) = true := by simp
        have MC := hid (mclr_any N S' lab _ HM5.out)
        go_wp2_with (go_at_call 25; refine hold ?_)
        unfold Hid
        refine MC.out.mono ?_
        rintro e w5 ⟨rfl, hM5, hk5⟩
        have HM6 := hid hM5
        have HK6 := hid hk5
        clear hM5 hk5
        go_wp2
        go_roundw
        case rel =>
          refine ⟨j, _, by go_num, by omega, HM6.out, ?_, HK5.out.trans HK6.out⟩
          unfold MkS.clr
          split <;> simp
        case measure => simp [intOf]
  · go_enter Tryz.func6, Tryz.ntmps6
    go_wp2
    rw [← HW1.out]
    go_loopw [9] (fun x wr => ∃ (j : Nat) (S' : MkS), x = .int .i64 (j) ∧ j ≤ 600 ∧ MkAt wr lab N S' ∧ S'.cn ≤ k + 1 ∧ KeptL lab markL w1 wr) (fun x _ => (intOf x).toNat)
    case atStart => exact ⟨600, S, rfl, by omega, HM1.out, by have := HCN.out; omega, KeptL.refl _ _ _⟩
    case round =>
      obtain ⟨j, S', rfl, hj, hM, hc, hK⟩ := hrel
      have f0 := hK.cell (b := w.heap.size + 1) 0 LT1 (by rw [lF]; simp [markL])
      have f1 := hK.cell (b := w.heap.size + 1) 1 LT1 (by rw [lF]; simp [markL])
      have f2 := hK.frozen (b := w.heap.size + 1) 0 LT1 (by rw [lF]; simp [markL])
      have f3 := hK.frozen (b := w.heap.size + 1) 1 LT1 (by rw [lF]; simp [markL])
      have g3 := hK.cell (b := d) 3 LT2 (by rw [HD.out.ld]; simp [markL])
      rw [A0.out] at f0
      rw [A1.out] at f1
      rw [A2.out] at f2
      rw [A3.out] at f3
      rw [G3.out] at g3
      have s5 := hK.size
      have HM5 := hid hM
      have HK5 := hid hK
      have HC5 := hid hc
      have ls := Nat.lt_of_lt_of_le LT1 s5
      have ls2 := Nat.lt_of_lt_of_le LT2 s5
      clear hM hK hc
      cases j with
      | zero =>
        go_wp2_with (go_at_call 15; refine (ok_any _ ⟨_, _, _, rfl⟩ _).mono ?_; rintro e w' ⟨rfl, z2, rfl⟩)
        refine bodyPost_ret (v := .agg #[.int .u8 0, .slice none 0 0]) (by simp [results, Tryz.results6, go_sem, ↓IntWalk.iteOmega, *]) rfl ?_
        exact do_finM (HD.out.more (Nat.le_succ k)) HO.out HL.out HB1.out LT1 HK5.out HM5.out HC5.out (by (repeat (first | with_reducible exact KeptBut.refl _ _ | with_reducible refine KeptBut.ex ?_ _ | with_reducible refine KeptBut.al ?_ _ | with_reducible refine KeptBut.set' ?_ _ _)))
      | succ j =>
        have bj : decide (0 < ((j + 1 : Nat) : Int)) = true := by simp
        have MC := hid (mclr_any N S' lab _ HM5.out)
        go_wp2_with (go_at_call 25; refine hold ?_)
        unfold Hid
        refine MC.out.mono ?_
        rintro e w5 ⟨rfl, hM5, hk5⟩
        have HM6 := hid hM5
        have HK6 := hid hk5
        clear hM5 hk5
        go_wp2
        go_roundw
        case rel =>
          refine ⟨j, _, by go_num, by omega, HM6.out, ?_, HK5.out.trans HK6.out⟩
          unfold MkS.clr
          split <;> simp
        case measure => simp [intOf]
end Go.Proofs.Qxb6500717aGreat
