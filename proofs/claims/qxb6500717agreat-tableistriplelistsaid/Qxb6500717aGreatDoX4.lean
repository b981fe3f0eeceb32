/-
  'do', exactly: no such step; no table; the heap.
-/
import Derived.Test.Qxb6500717aGreatDoX2
namespace Go.Proofs.Qxb6500717aGreat
open Go.RowKit
set_option linter.unusedSimpArgs false
set_option linter.unusedVariables false
set_option maxRecDepth 20000
set_option maxHeartbeats 4000000

theorem dx_else (K A B C D : Int) (ao : Option Addr) (n cap : Nat) (lab : Nat → Nat) (d k : Nat) (Q : DkS) (T : TabS) (hO : Q.O = some T) (w : World) (h : DeskX w lab d k Q) (hK : K < 0 ∨ 23 < K) : Calls Tryz.prog 6 #[.pointer (some ⟨d, 0, none⟩), .agg #[.int .i64 (K), .int .i64 (A), .int .i64 (B), .int .i64 (C), .int .i64 (D), .slice ao n cap]] w (doXPost lab d k ((2, []), Q) w) := by
  have k0 : (K == 0) = false := by simp; omega
  have k1 : (K == 1) = false := by simp; omega
  have k2 : (K == 2) = false := by simp; omega
  have k3 : (K == 3) = false := by simp; omega
  have k4 : (K == 4) = false := by simp; omega
  have k5 : (K == 5) = false := by simp; omega
  have k6 : (K == 6) = false := by simp; omega
  have k7 : (K == 7) = false := by simp; omega
  have k8 : (K == 8) = false := by simp; omega
  have k9 : (K == 9) = false := by simp; omega
  have k10 : (K == 10) = false := by simp; omega
  have k11 : (K == 11) = false := by simp; omega
  have k12 : (K == 12) = false := by simp; omega
  have k13 : (K == 13) = false := by simp; omega
  have k14 : (K == 14) = false := by simp; omega
  have k15 : (K == 15) = false := by simp; omega
  have k16 : (K == 16) = false := by simp; omega
  have k17 : (K == 17) = false := by simp; omega
  have k18 : (K == 18) = false := by simp; omega
  have k19 : (K == 19) = false := by simp; omega
  have k20 : (K == 20) = false := by simp; omega
  have k21 : (K == 21) = false := by simp; omega
  have k22 : (K == 22) = false := by simp; omega
  have k23 : (K == 23) = false := by simp; omega
  clear hK
  obtain ⟨⟨tv, N, hd, hm, ht⟩, hl, hp, hbk⟩ := h
  rw [hO] at ht
  obtain ⟨M, rfl, hT, hC⟩ := ht
  have HD := hid hd
  have HM := hid hm
  have HT := hid hT
  have HC := hid hC
  have HL := hid hl
  have HP := hid hp
  have HBK := hid hbk
  have HQ := hid hO
  have c0 := hd.c0
  have ld := hd.lt
  have lF := hl (w.heap.size + 1) (by omega)
  clear hd hm hT hC hl hp hbk hO
  go_enter Tryz.func6, Tryz.ntmps6
  go_wp2
  refine bodyPost_ret (v := .agg #[.int .u8 2, .slice none 0 0]) (by simp [results, Tryz.results6, go_sem, ↓IntWalk.iteOmega, *]) rfl ?_
  exact doX_fin (D' := Q) HL.out (by (repeat (first | with_reducible exact Below.rf _ | with_reducible exact World.below_ext _ _ | with_reducible refine Below.ex ?_ _ | with_reducible refine Below.al ?_ _ | with_reducible refine Below.setCell ?_ (by simp) _ | with_reducible refine Below.drew ?_))) (by simp <;> omega) (KeptL.refl lab tabL _) (fun x hx => by unfold tabL at hx; unfold tagL; omega) (fun _ _ => rfl) (HD.out.below (by (repeat (first | with_reducible exact Below.rf _ | with_reducible exact World.below_ext _ _ | with_reducible refine Below.ex ?_ _ | with_reducible refine Below.al ?_ _ | with_reducible refine Below.setCell ?_ (by simp) _ | with_reducible refine Below.drew ?_)))) (HM.out.below (by (repeat (first | with_reducible exact Below.rf _ | with_reducible exact World.below_ext _ _ | with_reducible refine Below.ex ?_ _ | with_reducible refine Below.al ?_ _ | with_reducible refine Below.setCell ?_ (by simp) _ | with_reducible refine Below.drew ?_)))) (by rw [HQ.out]; exact ⟨M, rfl, HT.out.below (by (repeat (first | with_reducible exact Below.rf _ | with_reducible exact World.below_ext _ _ | with_reducible refine Below.ex ?_ _ | with_reducible refine Below.al ?_ _ | with_reducible refine Below.setCell ?_ (by simp) _ | with_reducible refine Below.drew ?_))), HC.out⟩) (KeptBut.refl _ _) HP.out ⟨Nat.le_succ_of_le HBK.out.1, Nat.le_succ_of_le HBK.out.2.1, Nat.le_succ_of_le HBK.out.2.2⟩ (IntsAt.nil _ _)
theorem dx_none (K A B C D : Int) (ao : Option Addr) (n cap : Nat) (lab : Nat → Nat) (d k : Nat) (Q : DkS) (hO : Q.O = none) (w : World) (h : DeskX w lab d k Q) (hK : K ≠ 0 ∧ ¬ (14 ≤ K ∧ K ≤ 23)) : Calls Tryz.prog 6 #[.pointer (some ⟨d, 0, none⟩), .agg #[.int .i64 (K), .int .i64 (A), .int .i64 (B), .int .i64 (C), .int .i64 (D), .slice ao n cap]] w (doXPost lab d k ((1, []), Q) w) := by
  have k0 : (K == 0) = false := by simp; omega
  have k14 : (K == 14) = false := by simp; omega
  have k15 : (K == 15) = false := by simp; omega
  have k16 : (K == 16) = false := by simp; omega
  have k17 : (K == 17) = false := by simp; omega
  have k18 : (K == 18) = false := by simp; omega
  have k19 : (K == 19) = false := by simp; omega
  have k20 : (K == 20) = false := by simp; omega
  have k21 : (K == 21) = false := by simp; omega
  have k22 : (K == 22) = false := by simp; omega
  have k23 : (K == 23) = false := by simp; omega
  clear hK
  have HDK := hid h
  obtain ⟨⟨tv, N, hd, hm, ht⟩, hl, hp, hbk⟩ := h
  have HD := hid hd
  have HM := hid hm
  have HO := hid ht
  have HL := hid hl
  have HP := hid hp
  have HBK := hid hbk
  have ld := hd.lt
  have lF := hl (w.heap.size + 1) (by omega)
  clear hd hm ht hl hp hbk
  have c0 := HD.out.c0
  have etv : tv = .pointer none := by have := HO.out; rw [hO] at this; exact this
  rw [etv] at c0
  go_enter Tryz.func6, Tryz.ntmps6
  go_wp2
  refine bodyPost_ret (v := .agg #[.int .u8 1, .slice none 0 0]) (by simp [results, Tryz.results6, go_sem, ↓IntWalk.iteOmega, *]) rfl ?_
  exact doX_fin (D' := Q) HL.out (by (repeat (first | with_reducible exact Below.rf _ | with_reducible exact World.below_ext _ _ | with_reducible refine Below.ex ?_ _ | with_reducible refine Below.al ?_ _ | with_reducible refine Below.setCell ?_ (by simp) _ | with_reducible refine Below.drew ?_))) (by simp <;> omega) (KeptL.refl lab tabL _) (fun x hx => by unfold tabL at hx; unfold tagL; omega) (fun _ _ => rfl) (HD.out.below (by (repeat (first | with_reducible exact Below.rf _ | with_reducible exact World.below_ext _ _ | with_reducible refine Below.ex ?_ _ | with_reducible refine Below.al ?_ _ | with_reducible refine Below.setCell ?_ (by simp) _ | with_reducible refine Below.drew ?_)))) (HM.out.below (by (repeat (first | with_reducible exact Below.rf _ | with_reducible exact World.below_ext _ _ | with_reducible refine Below.ex ?_ _ | with_reducible refine Below.al ?_ _ | with_reducible refine Below.setCell ?_ (by simp) _ | with_reducible refine Below.drew ?_)))) (HO.out.carry (by (repeat (first | with_reducible exact Below.rf _ | with_reducible exact World.below_ext _ _ | with_reducible refine Below.ex ?_ _ | with_reducible refine Below.al ?_ _ | with_reducible refine Below.setCell ?_ (by simp) _ | with_reducible refine Below.drew ?_))) (KeptL.refl lab (fun _ => False) _) (fun _ _ => rfl) (fun _ _ h => h)) (KeptBut.refl _ _) HP.out ⟨Nat.le_succ_of_le HBK.out.1, Nat.le_succ_of_le HBK.out.2.1, Nat.le_succ_of_le HBK.out.2.2⟩ (IntsAt.nil _ _)
theorem dx_hlen (A B C D : Int) (ao : Option Addr) (n cap : Nat) (lab : Nat → Nat) (d k : Nat) (Q : DkS) (w : World) (h : DeskX w lab d k Q) (hk9 : k ≤ 900000) : Calls Tryz.prog 6 #[.pointer (some ⟨d, 0, none⟩), .agg #[.int .i64 (17), .int .i64 (A), .int .i64 (B), .int .i64 (C), .int .i64 (D), .slice ao n cap]] w (doXPost lab d k (((0, [(Q.L.length : Int)]), Q)) w) := by
  have HDK := hid h
  obtain ⟨⟨tv, N, hd, hm, ht⟩, hl, hp, hbk⟩ := h
  have HD := hid hd
  have HM := hid hm
  have HO := hid ht
  have HL := hid hl
  have HP := hid hp
  have HBK := hid hbk
  have ld := hd.lt
  have lF := hl (w.heap.size + 1) (by omega)
  clear hd hm ht hl hp hbk
  go_enter Tryz.func6, Tryz.ntmps6
  go_wp2_with (first | (go_at_call 19; refine (hlenX d lab tv _ Q.L Q.nx _ (HD.out.below (by (repeat (first | with_reducible exact Below.rf _ | with_reducible exact World.below_ext _ _ | with_reducible refine Below.ex ?_ _ | with_reducible refine Below.al ?_ _ | with_reducible refine Below.setCell ?_ (by simp) _ | with_reducible refine Below.drew ?_))))).mono ?_; rintro e w' ⟨rfl, rfl⟩) | (go_at_call 15; refine (ok_any _ ⟨_, _, _, rfl⟩ _).mono ?_; rintro e w' ⟨rfl, z9, rfl⟩))
  refine bodyPost_ret (v := .agg #[.int .u8 0, .slice (some ⟨w.heap.size + 1 + 1, 0, none⟩) 1 1]) (by simp [results, Tryz.results6, go_sem, ↓IntWalk.iteOmega, *]) rfl ?_
  exact doX_fin (D' := Q) HL.out (by (repeat (first | with_reducible exact Below.rf _ | with_reducible exact World.below_ext _ _ | with_reducible refine Below.ex ?_ _ | with_reducible refine Below.al ?_ _ | with_reducible refine Below.setCell ?_ (by simp) _ | with_reducible refine Below.drew ?_))) (by simp <;> omega) (KeptL.refl lab tabL _) (fun x hx => by unfold tabL at hx; unfold tagL; omega) (fun _ _ => rfl) (HD.out.below (by (repeat (first | with_reducible exact Below.rf _ | with_reducible exact World.below_ext _ _ | with_reducible refine Below.ex ?_ _ | with_reducible refine Below.al ?_ _ | with_reducible refine Below.setCell ?_ (by simp) _ | with_reducible refine Below.drew ?_)))) (HM.out.below (by (repeat (first | with_reducible exact Below.rf _ | with_reducible exact World.below_ext _ _ | with_reducible refine Below.ex ?_ _ | with_reducible refine Below.al ?_ _ | with_reducible refine Below.setCell ?_ (by simp) _ | with_reducible refine Below.drew ?_)))) (HO.out.carry (by (repeat (first | with_reducible exact Below.rf _ | with_reducible exact World.below_ext _ _ | with_reducible refine Below.ex ?_ _ | with_reducible refine Below.al ?_ _ | with_reducible refine Below.setCell ?_ (by simp) _ | with_reducible refine Below.drew ?_))) (KeptL.refl lab (fun _ => False) _) (fun _ _ => rfl) (fun _ _ h => h)) (KeptBut.refl _ _) HP.out ⟨Nat.le_succ_of_le HBK.out.1, Nat.le_succ_of_le HBK.out.2.1, Nat.le_succ_of_le HBK.out.2.2⟩ (IntsAt.one (by first | omega | (simp <;> omega)) (by simp <;> omega) (by simp [go_sem, ↓IntWalk.iteOmega]))
def pushD (Q : DkS) (e : Ent) (Q' : DkS) : Prop := Q'.O = Q.O ∧ Q'.S = Q.S ∧ Q'.nx = Q.nx + 1 ∧ Q'.L.Perm (Q.L ++ [e])
theorem dx_push (A B C D : Int) (ao : Option Addr) (n cap : Nat) (lab : Nat → Nat) (d k : Nat) (Q : DkS) (w : World) (h : DeskX w lab d k Q) (hk9 : k ≤ 900000) : Calls Tryz.prog 6 #[.pointer (some ⟨d, 0, none⟩), .agg #[.int .i64 (14), .int .i64 (A), .int .i64 (B), .int .i64 (C), .int .i64 (D), .slice ao n cap]] w fun e w' => ∃ Q', pushD Q (A, B, C, (Q.nx : Int)) Q' ∧ doXPost lab d k ((0, []), Q') w e w' := by
  have HDK := hid h
  obtain ⟨⟨tv, N, hd, hm, ht⟩, hl, hp, hbk⟩ := h
  have HD := hid hd
  have HM := hid hm
  have HO := hid ht
  have HL := hid hl
  have HP := hid hp
  have HBK := hid hbk
  have ld := hd.lt
  have lF := hl (w.heap.size + 1) (by omega)
  clear hd hm ht hl hp hbk
  go_enter Tryz.func6, Tryz.ntmps6
  go_wp2
  first | with_reducible refine wp_region_tail_ext2 10 (by kernel_rfl) (by kernel_rfl) ?_ | refine wp_region_tail_ext 10 (by kernel_rfl) (by kernel_rfl) ?_
  simp only [List.take_succ_cons, List.take_zero, List.drop_succ_cons, List.drop_zero]
  repeat (go_big_quiet_step (fail))
  refine wpQuiet_nil ?_
  rintro _ ⟨z, rfl⟩
  go_wp2_with (go_at_call 14; refine hold ?_)
  unfold Hid
  refine (hpushX d lab tv _ Q.L Q.nx A B C _ (HD.out.below (by (repeat (first | with_reducible exact Below.rf _ | with_reducible exact World.below_ext _ _ | with_reducible refine Below.ex ?_ _ | with_reducible refine Below.al ?_ _ | with_reducible refine Below.setCell ?_ (by simp) _ | with_reducible refine Below.drew ?_)))) (by have := HBK.out; omega) (by have := HBK.out; omega) HP.out).mono ?_
  rintro e w5 ⟨L', nx', ⟨rfl, rfl, hp5, hpm⟩, lab5, hD5, hl5, hk5⟩
  have f0 := hk5.cell (b := w.heap.size + 1) 0 (by simp <;> omega) (by rw [lF]; simp)
  have f1 := hk5.cell (b := w.heap.size + 1) 1 (by simp <;> omega) (by rw [lF]; simp)
  have f2 := hk5.frozen (b := w.heap.size + 1) 0 (by simp <;> omega) (by rw [lF]; simp)
  have f3 := hk5.frozen (b := w.heap.size + 1) 1 (by simp <;> omega) (by rw [lF]; simp)
  simp [go_sem, ↓IntWalk.iteOmega] at f0 f1 f2 f3
  have s5 := hk5.size
  simp at s5
  have FIN := hid (fun w6 v vals hv hkb => doX_fin (w6 := w6) (v := v) (vals := vals) (c := 0) (D' := { Q with L := L', nx := Q.nx + 1 }) HL.out (by (repeat (first | with_reducible exact Below.rf _ | with_reducible exact World.below_ext _ _ | with_reducible refine Below.ex ?_ _ | with_reducible refine Below.al ?_ _ | with_reducible refine Below.setCell ?_ (by simp) _ | with_reducible refine Below.drew ?_))) (by simp <;> omega) hk5 (fun x hx => by unfold tagL; omega) hl5 hD5 (HM.out.carry (by (repeat (first | with_reducible exact Below.rf _ | with_reducible exact World.below_ext _ _ | with_reducible refine Below.ex ?_ _ | with_reducible refine Below.al ?_ _ | with_reducible refine Below.setCell ?_ (by simp) _ | with_reducible refine Below.drew ?_))) hk5 hl5 (by omega) (by omega) (by omega)) (HO.out.carry (by (repeat (first | with_reducible exact Below.rf _ | with_reducible exact World.below_ext _ _ | with_reducible refine Below.ex ?_ _ | with_reducible refine Below.al ?_ _ | with_reducible refine Below.setCell ?_ (by simp) _ | with_reducible refine Below.drew ?_))) hk5 hl5 (fun x hx h => by unfold tabL at hx; omega)) hkb hp5 ⟨by rw [hpm.length_eq]; have := HBK.out; simp; omega, by have := HBK.out; simp; omega, Nat.le_succ_of_le HBK.out.2.2⟩ hv)
  have HPM := hid hpm
  clear hD5 hl5 hk5 hp5 hpm
  go_wp2_with (go_at_call 15; refine (ok_any _ ⟨_, _, _, rfl⟩ _).mono ?_; rintro e w' ⟨rfl, z9, rfl⟩)
  refine bodyPost_ret (v := .agg #[.int .u8 0, .slice none 0 0]) (by simp [results, Tryz.results6, go_sem, ↓IntWalk.iteOmega, *]) rfl ?_
  exact ⟨{ Q with L := L', nx := Q.nx + 1 }, ⟨rfl, rfl, rfl, HPM.out⟩, FIN.out _ _ _ (IntsAt.nil _ _) (by (repeat (first | with_reducible exact KeptBut.refl _ _ | with_reducible refine KeptBut.ex ?_ _ | with_reducible refine KeptBut.al ?_ _ | with_reducible refine KeptBut.set' ?_ _ _)))⟩
theorem dx_hreset (A B C D : Int) (ao : Option Addr) (n cap : Nat) (lab : Nat → Nat) (d k : Nat) (Q : DkS) (w : World) (h : DeskX w lab d k Q) (hk9 : k ≤ 900000) : Calls Tryz.prog 6 #[.pointer (some ⟨d, 0, none⟩), .agg #[.int .i64 (18), .int .i64 (A), .int .i64 (B), .int .i64 (C), .int .i64 (D), .slice ao n cap]] w (doXPost lab d k (((0, []), { Q with L := [], nx := 0 })) w) := by
  have HDK := hid h
  obtain ⟨⟨tv, N, hd, hm, ht⟩, hl, hp, hbk⟩ := h
  have HD := hid hd
  have HM := hid hm
  have HO := hid ht
  have HL := hid hl
  have HP := hid hp
  have HBK := hid hbk
  have ld := hd.lt
  have lF := hl (w.heap.size + 1) (by omega)
  clear hd hm ht hl hp hbk
  go_enter Tryz.func6, Tryz.ntmps6
  go_wp2_with (go_at_call 20; refine hold ?_)
  unfold Hid
  refine (hresetX d lab tv _ Q.L Q.nx _ (HD.out.below (by (repeat (first | with_reducible exact Below.rf _ | with_reducible exact World.below_ext _ _ | with_reducible refine Below.ex ?_ _ | with_reducible refine Below.al ?_ _ | with_reducible refine Below.setCell ?_ (by simp) _ | with_reducible refine Below.drew ?_))))).mono ?_
  rintro e w5 ⟨L', nx', ⟨rfl, rfl, rfl⟩, lab5, hD5, hl5, hk5⟩
  have f0 := hk5.cell (b := w.heap.size + 1) 0 (by simp <;> omega) (by rw [lF]; simp)
  have f1 := hk5.cell (b := w.heap.size + 1) 1 (by simp <;> omega) (by rw [lF]; simp)
  have f2 := hk5.frozen (b := w.heap.size + 1) 0 (by simp <;> omega) (by rw [lF]; simp)
  have f3 := hk5.frozen (b := w.heap.size + 1) 1 (by simp <;> omega) (by rw [lF]; simp)
  simp [go_sem, ↓IntWalk.iteOmega] at f0 f1 f2 f3
  have s5 := hk5.size
  simp at s5
  have FIN := hid (fun w6 v vals hv hkb => doX_fin (w6 := w6) (v := v) (vals := vals) (c := 0) (D' := { Q with L := [], nx := 0 }) HL.out (by (repeat (first | with_reducible exact Below.rf _ | with_reducible exact World.below_ext _ _ | with_reducible refine Below.ex ?_ _ | with_reducible refine Below.al ?_ _ | with_reducible refine Below.setCell ?_ (by simp) _ | with_reducible refine Below.drew ?_))) (by simp <;> omega) hk5 (fun x hx => by unfold tagL; omega) hl5 hD5 (HM.out.carry (by (repeat (first | with_reducible exact Below.rf _ | with_reducible exact World.below_ext _ _ | with_reducible refine Below.ex ?_ _ | with_reducible refine Below.al ?_ _ | with_reducible refine Below.setCell ?_ (by simp) _ | with_reducible refine Below.drew ?_))) hk5 hl5 (by omega) (by omega) (by omega)) (HO.out.carry (by (repeat (first | with_reducible exact Below.rf _ | with_reducible exact World.below_ext _ _ | with_reducible refine Below.ex ?_ _ | with_reducible refine Below.al ?_ _ | with_reducible refine Below.setCell ?_ (by simp) _ | with_reducible refine Below.drew ?_))) hk5 hl5 (fun x hx h => by unfold tabL at hx; omega)) hkb (fun i h1 h2 => by simp at h2) ⟨by simp, by simp, Nat.le_succ_of_le HBK.out.2.2⟩ hv)
  clear hD5 hl5 hk5
  go_wp2_with (go_at_call 15; refine (ok_any _ ⟨_, _, _, rfl⟩ _).mono ?_; rintro e w' ⟨rfl, z9, rfl⟩)
  refine bodyPost_ret (v := .agg #[.int .u8 0, .slice none 0 0]) (by simp [results, Tryz.results6, go_sem, ↓IntWalk.iteOmega, *]) rfl ?_
  exact FIN.out _ _ _ (IntsAt.nil _ _) (by (repeat (first | with_reducible exact KeptBut.refl _ _ | with_reducible refine KeptBut.ex ?_ _ | with_reducible refine KeptBut.al ?_ _ | with_reducible refine KeptBut.set' ?_ _ _)))
/-- What 'peek' and 'pop' answer. -/
def headA (L : List Ent) : Int × List Int := if L = [] then (9, []) else (0, [(at0 L 0).1, (at0 L 0).2.1, (at0 L 0).2.2.1])
/-- The answer was made by a small function behind a change. -/
theorem doX_ans2 {w w1 w5 w7 w6 : World} {lab lab5 : Nat → Nat} {d k : Nat} {tv : Value} {N : MkM} {D' : DkS} {A : Nat → Prop} {c : Int} {vals : List Int} {v : Value}
    (HL : ∀ j, w.heap.size ≤ j → lab j = 0) (hB : Below w.heap.size w w1) (hs : w.heap.size + 1 < w1.heap.size) (hk : KeptL lab A w1 w5) (hA : ∀ x, A x → tagL x) (hl5 : ∀ j, j < w1.heap.size → lab5 j = lab j)
    (hD : DX w5 lab5 d tv (.pointer (some ⟨N.m, 0, none⟩)) D'.L D'.nx) (hM : MkAt w5 lab5 N D'.S) (hO : TabO w5 lab5 tv D'.O) (hp : isHeap D'.L) (hbk : D'.L.length ≤ k + 1 ∧ D'.nx ≤ k + 1 ∧ D'.S.cn ≤ k + 1)
    (hB7 : Below w5.heap.size w5 w7) (hI : IntsAt w7 w5.heap.size v vals) (hkb : KeptBut (w.heap.size + 1) w7 w6) :
    doXPost lab d k ((c, vals), D') w (.returned (.agg #[.int .u8 c, v])) w6 := by
  have s1 := hB.size
  have s5 := hk.size
  have s7 := hB7.size
  exact doX_fin HL hB hs (hk.trans (KeptL.of_below hB7)) hA hl5 (hD.below hB7) (hM.below hB7) (hO.of hB7.size (fun _ _ => rfl) (fun j hj _ => hB7.block j hj)) hkb hp hbk (hI.of hkb.size (fun j hj hl => hkb.block j hl (by omega)) (by omega))
theorem headE_ex {L : List Ent} {e : Ending} (h : headE L e) : ∃ (a b c : Int) (f : Bool), e = .returned (.tuple #[.agg #[.int .i64 (a), .int .i64 (b), .int .i64 (c)], .bool f]) ∧ (if f then 0 else 9) = (headA L).1 ∧ (if f then [a, b, c] else []) = (headA L).2 := by
  rcases h with ⟨h1, rfl⟩ | ⟨h1, rfl⟩
  · refine ⟨0, 0, 0, false, rfl, ?_⟩
    unfold headA
    rw [if_pos h1]
    exact ⟨rfl, rfl⟩
  · refine ⟨_, _, _, true, rfl, ?_⟩
    unfold headA
    rw [if_neg h1]
    exact ⟨rfl, rfl⟩
theorem dx_peek (A B C D : Int) (ao : Option Addr) (n cap : Nat) (lab : Nat → Nat) (d k : Nat) (Q : DkS) (w : World) (h : DeskX w lab d k Q) (hk9 : k ≤ 900000) : Calls Tryz.prog 6 #[.pointer (some ⟨d, 0, none⟩), .agg #[.int .i64 (16), .int .i64 (A), .int .i64 (B), .int .i64 (C), .int .i64 (D), .slice ao n cap]] w (doXPost lab d k ((headA Q.L, Q)) w) := by
  have HDK := hid h
  obtain ⟨⟨tv, N, hd, hm, ht⟩, hl, hp, hbk⟩ := h
  have HD := hid hd
  have HM := hid hm
  have HO := hid ht
  have HL := hid hl
  have HP := hid hp
  have HBK := hid hbk
  have ld := hd.lt
  have lF := hl (w.heap.size + 1) (by omega)
  clear hd hm ht hl hp hbk
  obtain ⟨hA, hhA⟩ : ∃ x, headA Q.L = x := ⟨_, rfl⟩
  rw [hhA]
  have HHA := hid hhA
  clear hhA
  go_enter Tryz.func6, Tryz.ntmps6
  go_wp2_with (go_at_call 18; refine hold ?_)
  unfold Hid
  refine (hpeekX d lab tv _ Q.L Q.nx _ (HD.out.below (by (repeat (first | with_reducible exact Below.rf _ | with_reducible exact World.below_ext _ _ | with_reducible refine Below.ex ?_ _ | with_reducible refine Below.al ?_ _ | with_reducible refine Below.setCell ?_ (by simp) _ | with_reducible refine Below.drew ?_))))).mono ?_
  rintro e w' ⟨hE, z1, rfl⟩
  obtain ⟨x0, x1, x2, xf, rfl, q1, q2⟩ := headE_ex hE
  rw [HHA.out] at q1 q2
  have IT := hid (fun w1 => itemX x0 x1 x2 xf w1)
  simp only [q1, q2] at IT
  clear hE q1 q2
  go_wp2_with (go_at_call 16; refine hold ?_)
  unfold Hid
  refine (IT.out _).mono ?_
  rintro e w7 ⟨⟨v, rfl, hI⟩, hB7⟩
  have s7 := hB7.size
  have HI := hid hI
  have HB7 := hid hB7
  obtain ⟨ao5, cap5, rfl, -⟩ := hI
  have g0 := hB7.cell (p := ⟨w.heap.size + 1, 0, none⟩) (by simp <;> omega)
  have g1 := hB7.cell (p := ⟨w.heap.size + 1, 1, none⟩) (by simp <;> omega)
  have g2 := hB7.frozen (p := ⟨w.heap.size + 1, 0, none⟩) (by simp <;> omega)
  have g3 := hB7.frozen (p := ⟨w.heap.size + 1, 1, none⟩) (by simp <;> omega)
  simp [go_sem, ↓IntWalk.iteOmega] at g0 g1 g2 g3
  simp at s7
  clear hB7
  go_wp2
  refine bodyPost_ret (v := .agg #[.int .u8 hA.1, .slice ao5 hA.2.length cap5]) (by simp [results, Tryz.results6, go_sem, ↓IntWalk.iteOmega, *]) rfl ?_
  exact doX_ans HDK.out (by (repeat (first | with_reducible exact Below.rf _ | with_reducible exact World.below_ext _ _ | with_reducible refine Below.ex ?_ _ | with_reducible refine Below.al ?_ _ | with_reducible refine Below.setCell ?_ (by simp) _ | with_reducible refine Below.drew ?_))) (by simp <;> omega) HB7.out HI.out (by (repeat (first | with_reducible exact KeptBut.refl _ _ | with_reducible refine KeptBut.ex ?_ _ | with_reducible refine KeptBut.al ?_ _ | with_reducible refine KeptBut.set' ?_ _ _)))
def popD (Q Q' : DkS) : Prop := Q'.O = Q.O ∧ Q'.S = Q.S ∧ Q'.nx = Q.nx ∧ ((Q.L = [] ∧ Q'.L = []) ∨ (Q.L ≠ [] ∧ (at0 Q.L 0 :: Q'.L).Perm Q.L))
theorem dx_pop (A B C D : Int) (ao : Option Addr) (n cap : Nat) (lab : Nat → Nat) (d k : Nat) (Q : DkS) (w : World) (h : DeskX w lab d k Q) (hk9 : k ≤ 900000) : Calls Tryz.prog 6 #[.pointer (some ⟨d, 0, none⟩), .agg #[.int .i64 (15), .int .i64 (A), .int .i64 (B), .int .i64 (C), .int .i64 (D), .slice ao n cap]] w fun e w' => ∃ Q', popD Q Q' ∧ doXPost lab d k (headA Q.L, Q') w e w' := by
  have HDK := hid h
  obtain ⟨⟨tv, N, hd, hm, ht⟩, hl, hp, hbk⟩ := h
  have HD := hid hd
  have HM := hid hm
  have HO := hid ht
  have HL := hid hl
  have HP := hid hp
  have HBK := hid hbk
  have ld := hd.lt
  have lF := hl (w.heap.size + 1) (by omega)
  clear hd hm ht hl hp hbk
  obtain ⟨hA, hhA⟩ : ∃ x, headA Q.L = x := ⟨_, rfl⟩
  rw [hhA]
  have HHA := hid hhA
  clear hhA
  go_enter Tryz.func6, Tryz.ntmps6
  go_wp2_with (go_at_call 17; refine hold ?_)
  unfold Hid
  refine (hpopX d lab tv _ Q.L Q.nx _ (HD.out.below (by (repeat (first | with_reducible exact Below.rf _ | with_reducible exact World.below_ext _ _ | with_reducible refine Below.ex ?_ _ | with_reducible refine Below.al ?_ _ | with_reducible refine Below.setCell ?_ (by simp) _ | with_reducible refine Below.drew ?_)))) (by have := HBK.out; omega) HP.out).mono ?_
  rintro e w5 ⟨L', nx', ⟨hE, rfl, hp5, hpm⟩, lab5, hD5, hl5, hk5⟩
  have f0 := hk5.cell (b := w.heap.size + 1) 0 (by simp <;> omega) (by rw [lF]; simp)
  have f1 := hk5.cell (b := w.heap.size + 1) 1 (by simp <;> omega) (by rw [lF]; simp)
  have f2 := hk5.frozen (b := w.heap.size + 1) 0 (by simp <;> omega) (by rw [lF]; simp)
  have f3 := hk5.frozen (b := w.heap.size + 1) 1 (by simp <;> omega) (by rw [lF]; simp)
  simp [go_sem, ↓IntWalk.iteOmega] at f0 f1 f2 f3
  have s5 := hk5.size
  simp at s5
  obtain ⟨x0, x1, x2, xf, rfl, q1, q2⟩ := headE_ex hE
  rw [HHA.out] at q1 q2
  have IT := hid (fun w1 => itemX x0 x1 x2 xf w1)
  simp only [q1, q2] at IT
  have hlen : L'.length ≤ k + 1 := by
    rcases hpm with ⟨-, h2⟩ | ⟨-, h2⟩
    · rw [h2]; simp
    · have := h2.length_eq
      have := HBK.out
      simp at *
      omega
  have FIN := hid (fun w7 w6 v vals hB7 hI hkb => doX_ans2 (w7 := w7) (w6 := w6) (v := v) (vals := vals) (c := hA.1) (D' := { Q with L := L' }) HL.out (by (repeat (first | with_reducible exact Below.rf _ | with_reducible exact World.below_ext _ _ | with_reducible refine Below.ex ?_ _ | with_reducible refine Below.al ?_ _ | with_reducible refine Below.setCell ?_ (by simp) _ | with_reducible refine Below.drew ?_))) (by simp <;> omega) hk5 (fun x hx => by unfold tagL; omega) hl5 hD5 (HM.out.carry (by (repeat (first | with_reducible exact Below.rf _ | with_reducible exact World.below_ext _ _ | with_reducible refine Below.ex ?_ _ | with_reducible refine Below.al ?_ _ | with_reducible refine Below.setCell ?_ (by simp) _ | with_reducible refine Below.drew ?_))) hk5 hl5 (by omega) (by omega) (by omega)) (HO.out.carry (by (repeat (first | with_reducible exact Below.rf _ | with_reducible exact World.below_ext _ _ | with_reducible refine Below.ex ?_ _ | with_reducible refine Below.al ?_ _ | with_reducible refine Below.setCell ?_ (by simp) _ | with_reducible refine Below.drew ?_))) hk5 hl5 (fun x hx h => by unfold tabL at hx; omega)) hp5 ⟨hlen, Nat.le_succ_of_le HBK.out.2.1, Nat.le_succ_of_le HBK.out.2.2⟩ hB7 hI hkb)
  have HPM := hid hpm
  clear hE q1 q2 hD5 hl5 hk5 hp5 hpm hlen
  go_wp2_with (go_at_call 16; refine hold ?_)
  unfold Hid
  refine (IT.out _).mono ?_
  rintro e w7 ⟨⟨v, rfl, hI⟩, hB7⟩
  have s7 := hB7.size
  have HI := hid hI
  have HB7 := hid hB7
  obtain ⟨ao5, cap5, rfl, -⟩ := hI
  have g0 := (hB7.cell (p := ⟨w.heap.size + 1, 0, none⟩) (by first | omega | (simp <;> omega))).trans f0
  have g1 := (hB7.cell (p := ⟨w.heap.size + 1, 1, none⟩) (by first | omega | (simp <;> omega))).trans f1
  have g2 := (hB7.frozen (p := ⟨w.heap.size + 1, 0, none⟩) (by first | omega | (simp <;> omega))).trans f2
  have g3 := (hB7.frozen (p := ⟨w.heap.size + 1, 1, none⟩) (by first | omega | (simp <;> omega))).trans f3
  clear hB7 f0 f1 f2 f3
  go_wp2
  refine bodyPost_ret (v := .agg #[.int .u8 hA.1, .slice ao5 hA.2.length cap5]) (by simp [results, Tryz.results6, go_sem, ↓IntWalk.iteOmega, *]) rfl ?_
  exact ⟨{ Q with L := L' }, ⟨rfl, rfl, rfl, HPM.out⟩, FIN.out _ _ _ _ HB7.out HI.out (by (repeat (first | with_reducible exact KeptBut.refl _ _ | with_reducible refine KeptBut.ex ?_ _ | with_reducible refine KeptBut.al ?_ _ | with_reducible refine KeptBut.set' ?_ _ _)))⟩
end Go.Proofs.Qxb6500717aGreat
