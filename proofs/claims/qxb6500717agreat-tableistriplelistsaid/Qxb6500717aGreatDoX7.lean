/-
  'do', exactly: new marks; a new table.
-/
import Derived.Test.Qxb6500717aGreatDoX6
namespace Go.Proofs.Qxb6500717aGreat
open Go.RowKit
set_option linter.unusedSimpArgs false
set_option linter.unusedVariables false
set_option maxRecDepth 20000
set_option maxHeartbeats 4000000

def minitD (Q : DkS) (A : Int) : Int × DkS := if 0 ≤ A ∧ A ≤ 4096 then (0, { Q with S := MkS.new A.toNat }) else (2, Q)
theorem dx_minit (A B C D : Int) (ao : Option Addr) (n cap : Nat) (lab : Nat → Nat) (d k : Nat) (Q : DkS) (w : World) (h : DeskX w lab d k Q) (hk9 : k ≤ 900000) : Calls Tryz.prog 6 #[.pointer (some ⟨d, 0, none⟩), .agg #[.int .i64 (19), .int .i64 (A), .int .i64 (B), .int .i64 (C), .int .i64 (D), .slice ao n cap]] w (doXPost lab d k ((((minitD Q A).1, []), (minitD Q A).2)) w) := by
  have HDK := hid h
  obtain ⟨⟨tv, N, hd, hm, ht⟩, hl, hp, hbk⟩ := h
  have HD := hid hd
  have HM := hid hm
  have HO := hid ht
  have HL := hid hl
  have HP := hid hp
  have HBK := hid hbk
  have ld := hd.lt
  have lF := hl (w.heap.size + 1) (by omega)
  clear hd hm ht hl hp hbk
  have d1 := HD.out.fz 3 (by omega)
  have c3 := HD.out.c3
  by_cases h0 : A < 0
  · rw [show minitD Q A = (2, Q) from if_neg (by omega)]
    go_enter Tryz.func6, Tryz.ntmps6
    go_wp2
    refine bodyPost_ret (v := .agg #[.int .u8 2, .slice none 0 0]) (by simp [results, Tryz.results6, go_sem, ↓IntWalk.iteOmega, *]) rfl ?_
    exact doX_fin (D' := Q) HL.out (by (repeat (first | with_reducible exact Below.rf _ | with_reducible exact World.below_ext _ _ | with_reducible refine Below.ex ?_ _ | with_reducible refine Below.al ?_ _ | with_reducible refine Below.setCell ?_ (by simp) _ | with_reducible refine Below.drew ?_))) (by simp <;> omega) (KeptL.refl lab tabL _) (fun x hx => by unfold tabL at hx; unfold tagL; omega) (fun _ _ => rfl) (HD.out.below (by (repeat (first | with_reducible exact Below.rf _ | with_reducible exact World.below_ext _ _ | with_reducible refine Below.ex ?_ _ | with_reducible refine Below.al ?_ _ | with_reducible refine Below.setCell ?_ (by simp) _ | with_reducible refine Below.drew ?_)))) (HM.out.below (by (repeat (first | with_reducible exact Below.rf _ | with_reducible exact World.below_ext _ _ | with_reducible refine Below.ex ?_ _ | with_reducible refine Below.al ?_ _ | with_reducible refine Below.setCell ?_ (by simp) _ | with_reducible refine Below.drew ?_)))) (HO.out.carry (by (repeat (first | with_reducible exact Below.rf _ | with_reducible exact World.below_ext _ _ | with_reducible refine Below.ex ?_ _ | with_reducible refine Below.al ?_ _ | with_reducible refine Below.setCell ?_ (by simp) _ | with_reducible refine Below.drew ?_))) (KeptL.refl lab (fun _ => False) _) (fun _ _ => rfl) (fun _ _ h => h)) (KeptBut.refl _ _) HP.out ⟨Nat.le_succ_of_le HBK.out.1, Nat.le_succ_of_le HBK.out.2.1, Nat.le_succ_of_le HBK.out.2.2⟩ (IntsAt.nil _ _)
  by_cases h1 : 4096 < A
  · rw [show minitD Q A = (2, Q) from if_neg (by omega)]
    go_enter Tryz.func6, Tryz.ntmps6
    go_wp2
    refine bodyPost_ret (v := .agg #[.int .u8 2, .slice none 0 0]) (by simp [results, Tryz.results6, go_sem, ↓IntWalk.iteOmega, *]) rfl ?_
    exact doX_fin (D' := Q) HL.out (by (repeat (first | with_reducible exact Below.rf _ | with_reducible exact World.below_ext _ _ | with_reducible refine Below.ex ?_ _ | with_reducible refine Below.al ?_ _ | with_reducible refine Below.setCell ?_ (by simp) _ | with_reducible refine Below.drew ?_))) (by simp <;> omega) (KeptL.refl lab tabL _) (fun x hx => by unfold tabL at hx; unfold tagL; omega) (fun _ _ => rfl) (HD.out.below (by (repeat (first | with_reducible exact Below.rf _ | with_reducible exact World.below_ext _ _ | with_reducible refine Below.ex ?_ _ | with_reducible refine Below.al ?_ _ | with_reducible refine Below.setCell ?_ (by simp) _ | with_reducible refine Below.drew ?_)))) (HM.out.below (by (repeat (first | with_reducible exact Below.rf _ | with_reducible exact World.below_ext _ _ | with_reducible refine Below.ex ?_ _ | with_reducible refine Below.al ?_ _ | with_reducible refine Below.setCell ?_ (by simp) _ | with_reducible refine Below.drew ?_)))) (HO.out.carry (by (repeat (first | with_reducible exact Below.rf _ | with_reducible exact World.below_ext _ _ | with_reducible refine Below.ex ?_ _ | with_reducible refine Below.al ?_ _ | with_reducible refine Below.setCell ?_ (by simp) _ | with_reducible refine Below.drew ?_))) (KeptL.refl lab (fun _ => False) _) (fun _ _ => rfl) (fun _ _ h => h)) (KeptBut.refl _ _) HP.out ⟨Nat.le_succ_of_le HBK.out.1, Nat.le_succ_of_le HBK.out.2.1, Nat.le_succ_of_le HBK.out.2.2⟩ (IntsAt.nil _ _)
  obtain ⟨m, rfl⟩ := Int.eq_ofNat_of_zero_le (show 0 ≤ A by omega)
  have hm : m ≤ 4096 := by omega
  rw [show minitD Q m = (0, { Q with S := MkS.new m }) from if_pos (by omega)]
  go_enter Tryz.func6, Tryz.ntmps6
  go_wp2_with (go_at_call 12; refine hold ?_)
  unfold Hid
  refine (newMarks_any m hm lab _).mono ?_
  rintro e w5 ⟨N', lab5, rfl, hM5, hl5, hB5⟩
  have e1 := hB5.block d (by simp; omega)
  have g1 : w5.cell? ⟨d, 3, none⟩ = some (.pointer (some ⟨N.m, 0, none⟩)) := by rw [World.cell?_of_block e1]; simp [go_sem, ↓IntWalk.iteOmega, c3]
  have g2 : w5.frozen? ⟨d, 3, none⟩ = false := by rw [World.frozen?_of_block e1]; simp [go_sem, ↓IntWalk.iteOmega, d1]
  have e2 := hB5.block (w.heap.size + 1) (by simp)
  have f0 : w5.cell? ⟨w.heap.size + 1, 0, none⟩ = some (.int .u8 0) := by rw [World.cell?_of_block e2]; simp [go_sem, ↓IntWalk.iteOmega]
  have f1 : w5.cell? ⟨w.heap.size + 1, 1, none⟩ = some (.slice none 0 0) := by rw [World.cell?_of_block e2]; simp [go_sem, ↓IntWalk.iteOmega]
  have f2 : w5.frozen? ⟨w.heap.size + 1, 0, none⟩ = false := by rw [World.frozen?_of_block e2]; simp [go_sem, ↓IntWalk.iteOmega]
  have f3 : w5.frozen? ⟨w.heap.size + 1, 1, none⟩ = false := by rw [World.frozen?_of_block e2]; simp [go_sem, ↓IntWalk.iteOmega]
  have s5 := hB5.size
  simp at s5
  have HM5 := hid hM5
  have HL5 := hid hl5
  have HB5 := hid hB5
  clear hM5 hl5 hB5 e1 e2 c3 d1
  go_wp2_with (go_at_call 15; refine (ok_any _ ⟨_, _, _, rfl⟩ _).mono ?_; rintro e w' ⟨rfl, z9, rfl⟩)
  refine bodyPost_ret (v := .agg #[.int .u8 0, .slice none 0 0]) (by simp [results, Tryz.results6, go_sem, ↓IntWalk.iteOmega, *]) rfl ?_
  refine doX_set (D' := { Q with S := MkS.new m }) HD.out.ld ld HL.out (by (repeat (first | with_reducible exact Below.rf _ | with_reducible exact World.below_ext _ _ | with_reducible refine Below.ex ?_ _ | with_reducible refine Below.al ?_ _ | with_reducible refine Below.setCell ?_ (by simp) _ | with_reducible refine Below.drew ?_))) (by simp <;> omega) HB5.out HL5.out (DX.setM (tv := tv) (mv := .pointer (some ⟨N.m, 0, none⟩)) ?_) HM5.out ?_ (by (repeat (first | with_reducible exact KeptBut.refl _ _ | with_reducible refine KeptBut.ex ?_ _ | with_reducible refine KeptBut.al ?_ _ | with_reducible refine KeptBut.set' ?_ _ _))) HP.out ⟨Nat.le_succ_of_le HBK.out.1, Nat.le_succ_of_le HBK.out.2.1, by simp [MkS.new]⟩ (IntsAt.nil _ _)
  · exact HD.out.carry (by (repeat (first | with_reducible exact Below.rf _ | with_reducible exact World.below_ext _ _ | with_reducible refine Below.ex ?_ _ | with_reducible refine Below.al ?_ _ | with_reducible refine Below.setCell ?_ (by simp) _ | with_reducible refine Below.drew ?_))) (KeptL.of_below (A := fun _ => False) HB5.out) HL5.out (fun h => h) (fun h => h)
  · exact HO.out.carry (by (repeat (first | with_reducible exact Below.rf _ | with_reducible exact World.below_ext _ _ | with_reducible refine Below.ex ?_ _ | with_reducible refine Below.al ?_ _ | with_reducible refine Below.setCell ?_ (by simp) _ | with_reducible refine Below.drew ?_))) (KeptL.of_below (A := fun _ => False) HB5.out) HL5.out (fun _ _ h => h)
theorem dx_init (A B C D : Int) (ao : Option Addr) (n cap : Nat) (lab : Nat → Nat) (d k : Nat) (Q : DkS) (w : World) (h : DeskX w lab d k Q) (hk9 : k ≤ 900000) : Calls Tryz.prog 6 #[.pointer (some ⟨d, 0, none⟩), .agg #[.int .i64 (0), .int .i64 (A), .int .i64 (B), .int .i64 (C), .int .i64 (D), .slice ao n cap]] w (doXPost lab d k ((((stepNew Q.O A B C).1, []), { Q with O := (stepNew Q.O A B C).2 })) w) := by
  have HDK := hid h
  obtain ⟨⟨tv, N, hd, hm, ht⟩, hl, hp, hbk⟩ := h
  have HD := hid hd
  have HM := hid hm
  have HO := hid ht
  have HL := hid hl
  have HP := hid hp
  have HBK := hid hbk
  have ld := hd.lt
  have lF := hl (w.heap.size + 1) (by omega)
  clear hd hm ht hl hp hbk
  cases hh : newOk A B C with
  | false =>
    have e : stepNew Q.O A B C = (2, Q.O) := by simp [stepNew, hh]
    rw [e]
    have NN := hid (fun w1 => new_no A B C w1 hh)
    go_enter Tryz.func6, Tryz.ntmps6
    go_wp2_with (go_at_call 13; refine (NN.out _).mono ?_; rintro e w' ⟨rfl, rfl⟩)
    refine bodyPost_ret (v := .agg #[.int .u8 2, .slice none 0 0]) (by simp [results, Tryz.results6, go_sem, ↓IntWalk.iteOmega, *]) rfl ?_
    exact doX_fin (D' := Q) HL.out (by (repeat (first | with_reducible exact Below.rf _ | with_reducible exact World.below_ext _ _ | with_reducible refine Below.ex ?_ _ | with_reducible refine Below.al ?_ _ | with_reducible refine Below.setCell ?_ (by simp) _ | with_reducible refine Below.drew ?_))) (by simp <;> omega) (KeptL.refl lab tabL _) (fun x hx => by unfold tabL at hx; unfold tagL; omega) (fun _ _ => rfl) (HD.out.below (by (repeat (first | with_reducible exact Below.rf _ | with_reducible exact World.below_ext _ _ | with_reducible refine Below.ex ?_ _ | with_reducible refine Below.al ?_ _ | with_reducible refine Below.setCell ?_ (by simp) _ | with_reducible refine Below.drew ?_)))) (HM.out.below (by (repeat (first | with_reducible exact Below.rf _ | with_reducible exact World.below_ext _ _ | with_reducible refine Below.ex ?_ _ | with_reducible refine Below.al ?_ _ | with_reducible refine Below.setCell ?_ (by simp) _ | with_reducible refine Below.drew ?_)))) (HO.out.carry (by (repeat (first | with_reducible exact Below.rf _ | with_reducible exact World.below_ext _ _ | with_reducible refine Below.ex ?_ _ | with_reducible refine Below.al ?_ _ | with_reducible refine Below.setCell ?_ (by simp) _ | with_reducible refine Below.drew ?_))) (KeptL.refl lab (fun _ => False) _) (fun _ _ => rfl) (fun _ _ h => h)) (KeptBut.refl _ _) HP.out ⟨Nat.le_succ_of_le HBK.out.1, Nat.le_succ_of_le HBK.out.2.1, Nat.le_succ_of_le HBK.out.2.2⟩ (IntsAt.nil _ _)
  | true =>
    have e : stepNew Q.O A B C = (0, some (TabS.new A.toNat B.toNat C.toNat)) := by simp [stepNew, hh]
    rw [e]
    have hh' : (1 ≤ A ∧ A ≤ 150) ∧ (1 ≤ B ∧ B ≤ 6) ∧ (1 ≤ C ∧ C ≤ 1536) := by simpa [newOk] using hh
    obtain ⟨nc, rfl⟩ := Int.eq_ofNat_of_zero_le (show 0 ≤ A by omega)
    obtain ⟨nr, rfl⟩ := Int.eq_ofNat_of_zero_le (show 0 ≤ B by omega)
    obtain ⟨cp, rfl⟩ := Int.eq_ofNat_of_zero_le (show 0 ≤ C by omega)
    simp only [Int.toNat_natCast]
    have d1 := HD.out.fz 0 (by omega)
    have c0 := HD.out.c0
    have NN := hid (fun w1 => new_any nc nr cp (by omega) (by omega) (by omega) lab w1)
    clear hh hh' e
    go_enter Tryz.func6, Tryz.ntmps6
    go_wp2_with (go_at_call 13; refine hold ?_)
    unfold Hid
    refine (NN.out _).mono ?_
    rintro e w5 ⟨M', lab5, rfl, hT5, hl5, hB5⟩
    have e1 := hB5.block d (by simp; omega)
    have g1 : w5.cell? ⟨d, 0, none⟩ = some tv := by rw [World.cell?_of_block e1]; simp [go_sem, ↓IntWalk.iteOmega, c0]
    have g2 : w5.frozen? ⟨d, 0, none⟩ = false := by rw [World.frozen?_of_block e1]; simp [go_sem, ↓IntWalk.iteOmega, d1]
    have e2 := hB5.block (w.heap.size + 1) (by simp)
    have f0 : w5.cell? ⟨w.heap.size + 1, 0, none⟩ = some (.int .u8 0) := by rw [World.cell?_of_block e2]; simp [go_sem, ↓IntWalk.iteOmega]
    have f1 : w5.cell? ⟨w.heap.size + 1, 1, none⟩ = some (.slice none 0 0) := by rw [World.cell?_of_block e2]; simp [go_sem, ↓IntWalk.iteOmega]
    have f2 : w5.frozen? ⟨w.heap.size + 1, 0, none⟩ = false := by rw [World.frozen?_of_block e2]; simp [go_sem, ↓IntWalk.iteOmega]
    have f3 : w5.frozen? ⟨w.heap.size + 1, 1, none⟩ = false := by rw [World.frozen?_of_block e2]; simp [go_sem, ↓IntWalk.iteOmega]
    have s5 := hB5.size
    simp at s5
    have HT5 := hid hT5
    have HL5 := hid hl5
    have HB5 := hid hB5
    clear hT5 hl5 hB5 e1 e2 c0 d1
    go_wp2
    refine bodyPost_ret (v := .agg #[.int .u8 0, .slice none 0 0]) (by simp [results, Tryz.results6, go_sem, ↓IntWalk.iteOmega, *]) rfl ?_
    refine doX_set (D' := { Q with O := some (TabS.new nc nr cp) }) HD.out.ld ld HL.out (by (repeat (first | with_reducible exact Below.rf _ | with_reducible exact World.below_ext _ _ | with_reducible refine Below.ex ?_ _ | with_reducible refine Below.al ?_ _ | with_reducible refine Below.setCell ?_ (by simp) _ | with_reducible refine Below.drew ?_))) (by simp <;> omega) HB5.out HL5.out (DX.setT (tv := tv) (mv := .pointer (some ⟨N.m, 0, none⟩)) ?_) (N' := N) ?_ ⟨M', rfl, HT5.out, Con.new _ _ _⟩ (by (repeat (first | with_reducible exact KeptBut.refl _ _ | with_reducible refine KeptBut.ex ?_ _ | with_reducible refine KeptBut.al ?_ _ | with_reducible refine KeptBut.set' ?_ _ _))) HP.out ⟨Nat.le_succ_of_le HBK.out.1, Nat.le_succ_of_le HBK.out.2.1, Nat.le_succ_of_le HBK.out.2.2⟩ (IntsAt.nil _ _)
    · exact HD.out.carry (by (repeat (first | with_reducible exact Below.rf _ | with_reducible exact World.below_ext _ _ | with_reducible refine Below.ex ?_ _ | with_reducible refine Below.al ?_ _ | with_reducible refine Below.setCell ?_ (by simp) _ | with_reducible refine Below.drew ?_))) (KeptL.of_below (A := fun _ => False) HB5.out) HL5.out (fun h => h) (fun h => h)
    · exact HM.out.carry (by (repeat (first | with_reducible exact Below.rf _ | with_reducible exact World.below_ext _ _ | with_reducible refine Below.ex ?_ _ | with_reducible refine Below.al ?_ _ | with_reducible refine Below.setCell ?_ (by simp) _ | with_reducible refine Below.drew ?_))) (KeptL.of_below (A := fun _ => False) HB5.out) HL5.out (fun h => h) (fun h => h) (fun h => h)
end Go.Proofs.Qxb6500717aGreat
