/-
  'do': the steps on the heap; no table.
-/
import Derived.Test.Qxb6500717aGreatDo1
namespace Go.Proofs.Qxb6500717aGreat
open Go.RowKit
set_option linter.unusedSimpArgs false
set_option linter.unusedVariables false
set_option maxRecDepth 20000
set_option maxHeartbeats 4000000

theorem do_finH {w w1 w5 w6 : World} {lab lab5 : Nat → Nat} {d k : Nat} {tv : Value} {O : Option TabS} {N : MkM} {S : MkS} {A : Nat → Prop} {c : Int} {v : Value}
    (HM : MkAt w lab N S) (HCN : S.cn ≤ k) (HO : TabO w lab tv O) (HL : ∀ j, w.heap.size ≤ j → lab j = 0) (hB : Below w.heap.size w w1) (hs : w.heap.size + 1 < w1.heap.size)
    (hk : KeptL lab A w1 w5) (hA : ∀ x, A x → x = 1 ∨ x = 2) (hl5 : ∀ j, j < w1.heap.size → lab5 j = lab j) (hD : DAt w5 lab5 d tv (.pointer (some ⟨N.m, 0, none⟩)) (k + 1)) (hkb : KeptBut (w.heap.size + 1) w5 w6) (hv : isSl v = true := by rfl) :
    doPost lab d k (fun _ => True) O w (.returned (.agg #[.int .u8 c, v])) w6 := by
  have hz : lab5 (w.heap.size + 1) = 0 := by rw [hl5 _ hs]; exact HL _ (by omega)
  have s5 := hk.size
  have hs1 := hB.size
  have s6 := hkb.size
  have key : ∀ j, j < w.heap.size → tagL (lab j) → ¬ A (lab j) → w6.heap[j]? = w.heap[j]? := fun j hj hn hna => by
    rw [hkb.block j (by omega) (by omega), hk.block j (by omega) hna, hB.block j hj]
  have nA : ∀ {x : Nat}, 3 ≤ x → ¬ A x := fun hx h => by have := hA _ h; omega
  refine doPost.make (tv := tv) (N := N) (S := S) trivial (hD.of s6 (fun _ _ => rfl) (fun j hj hl => hkb.block j hj (fun e => by rw [e, hz] at hl; omega))) (HM.of (by omega) (fun j hj => hl5 j (by omega)) (fun j hj hl => key j hj (by unfold tagL; omega) (nA (by omega)))) (by omega) ?_ (fun j hj => hl5 j (by omega)) ?_ hv
  · cases O with
    | none => exact HO
    | some T =>
      obtain ⟨M, h1, h2, h3⟩ := HO
      exact ⟨M, h1, h2.of (by omega) (fun j hj => hl5 j (by omega)) (fun j hj ht => key j hj (by unfold tabL at ht; unfold tagL; omega) (nA (by unfold tabL at ht; omega))), h3⟩
  · refine ⟨?_, ?_, ?_, by omega, fun j hj hn => ?_⟩
    · rw [hkb.os, hk.os, hB.os]
    · rw [hkb.tape, hk.tape, hB.tape]
    · rw [hkb.output, hk.output, hB.output]
    · rw [hkb.block j (by omega) (by omega), hk.block j (by omega) (fun h => hn (by have := hA _ h; unfold tagL; omega)), hB.block j hj]


theorem do_push (A B C D : Int) (ao : Option Addr) (n cap : Nat) (lab : Nat → Nat) (d k : Nat) (O : Option TabS) (w : World) (h : Desk w lab d k O) (hk9 : k ≤ 900000) : Calls Tryz.prog 6 #[.pointer (some ⟨d, 0, none⟩), .agg #[.int .i64 (14), .int .i64 (A), .int .i64 (B), .int .i64 (C), .int .i64 (D), .slice ao n cap]] w (doPost lab d k (fun _ => True) O w) := by
  obtain ⟨⟨tv, N, S, hd, hm, hcn, ht⟩, hl⟩ := h
  have HD := hid hd
  have HM := hid hm
  have HCN := hid hcn
  have HO := hid ht
  have HL := hid hl
  have ld := hd.lt
  have lF := hl (w.heap.size + 1) (by omega)
  clear hd hm hcn ht hl
  go_enter Tryz.func6, Tryz.ntmps6
  go_wp2
  first | with_reducible refine wp_region_tail_ext2 10 (by kernel_rfl) (by kernel_rfl) ?_ | refine wp_region_tail_ext 10 (by kernel_rfl) (by kernel_rfl) ?_
  simp only [List.take_succ_cons, List.take_zero, List.drop_succ_cons, List.drop_zero]
  repeat (go_big_quiet_step (fail))
  refine wpQuiet_nil ?_
  rintro _ ⟨z, rfl⟩
  go_wp2_with (go_at_call 14; refine hold ?_)
  unfold Hid
  refine (hpush_any d lab tv _ k A B C _ (HD.out.below (by (repeat (first | with_reducible exact Below.rf _ | with_reducible exact World.below_ext _ _ | with_reducible refine Below.ex ?_ _ | with_reducible refine Below.al ?_ _ | with_reducible refine Below.setCell ?_ (by simp) _ | with_reducible refine Below.drew ?_)))) hk9).mono ?_
  rintro e w5 ⟨rfl, lab5, hD5, hl5, hk5⟩
  have f0 := hk5.cell (b := w.heap.size + 1) 0 (by simp <;> omega) (by rw [lF]; simp)
  have f1 := hk5.cell (b := w.heap.size + 1) 1 (by simp <;> omega) (by rw [lF]; simp)
  have f2 := hk5.frozen (b := w.heap.size + 1) 0 (by simp <;> omega) (by rw [lF]; simp)
  have f3 := hk5.frozen (b := w.heap.size + 1) 1 (by simp <;> omega) (by rw [lF]; simp)
  simp [go_sem, ↓IntWalk.iteOmega] at f0 f1 f2 f3
  have s5 := hk5.size
  simp at s5
  have FIN := hid (fun w6 c v hv hkb => do_finH (w6 := w6) (c := c) (v := v) (hv := hv) HM.out HCN.out HO.out HL.out (by (repeat (first | with_reducible exact Below.rf _ | with_reducible exact World.below_ext _ _ | with_reducible refine Below.ex ?_ _ | with_reducible refine Below.al ?_ _ | with_reducible refine Below.setCell ?_ (by simp) _ | with_reducible refine Below.drew ?_))) (by simp <;> omega) hk5 (fun x hx => hx) hl5 hD5 hkb)
  clear hD5 hl5 hk5
  go_wp2_with (go_at_call 15; refine (ok_any _ ⟨_, _, _, rfl⟩ _).mono ?_; rintro e w' ⟨rfl, z2, rfl⟩)
  refine bodyPost_ret (v := .agg #[.int .u8 0, .slice none 0 0]) (by simp [results, Tryz.results6, go_sem, ↓IntWalk.iteOmega, *]) rfl ?_
  exact FIN.out _ _ _ rfl (by (repeat (first | with_reducible exact KeptBut.refl _ _ | with_reducible refine KeptBut.ex ?_ _ | with_reducible refine KeptBut.al ?_ _ | with_reducible refine KeptBut.set' ?_ _ _)))

theorem do_pop (A B C D : Int) (ao : Option Addr) (n cap : Nat) (lab : Nat → Nat) (d k : Nat) (O : Option TabS) (w : World) (h : Desk w lab d k O) (hk9 : k ≤ 900000) : Calls Tryz.prog 6 #[.pointer (some ⟨d, 0, none⟩), .agg #[.int .i64 (15), .int .i64 (A), .int .i64 (B), .int .i64 (C), .int .i64 (D), .slice ao n cap]] w (doPost lab d k (fun _ => True) O w) := by
  obtain ⟨⟨tv, N, S, hd, hm, hcn, ht⟩, hl⟩ := h
  have HD := hid hd
  have HM := hid hm
  have HCN := hid hcn
  have HO := hid ht
  have HL := hid hl
  have ld := hd.lt
  have lF := hl (w.heap.size + 1) (by omega)
  clear hd hm hcn ht hl
  go_enter Tryz.func6, Tryz.ntmps6
  go_wp2_with (go_at_call 17; refine hold ?_)
  unfold Hid
  refine (hpop_any d lab tv _ k _ (HD.out.below (by (repeat (first | with_reducible exact Below.rf _ | with_reducible exact World.below_ext _ _ | with_reducible refine Below.ex ?_ _ | with_reducible refine Below.al ?_ _ | with_reducible refine Below.setCell ?_ (by simp) _ | with_reducible refine Below.drew ?_)))) (by omega)).mono ?_
  rintro e w5 ⟨⟨x0, x1, x2, xf, rfl⟩, lab5, hD5, hl5, hk5⟩
  have f0 := hk5.cell (b := w.heap.size + 1) 0 (by simp <;> omega) (by rw [lF]; simp)
  have f1 := hk5.cell (b := w.heap.size + 1) 1 (by simp <;> omega) (by rw [lF]; simp)
  have f2 := hk5.frozen (b := w.heap.size + 1) 0 (by simp <;> omega) (by rw [lF]; simp)
  have f3 := hk5.frozen (b := w.heap.size + 1) 1 (by simp <;> omega) (by rw [lF]; simp)
  simp [go_sem, ↓IntWalk.iteOmega] at f0 f1 f2 f3
  have s5 := hk5.size
  simp at s5
  have FIN := hid (fun w6 c v hv hkb => do_finH (w6 := w6) (c := c) (v := v) (hv := hv) HM.out HCN.out HO.out HL.out (by (repeat (first | with_reducible exact Below.rf _ | with_reducible exact World.below_ext _ _ | with_reducible refine Below.ex ?_ _ | with_reducible refine Below.al ?_ _ | with_reducible refine Below.setCell ?_ (by simp) _ | with_reducible refine Below.drew ?_))) (by simp) hk5 (fun x hx => hx) hl5 (hD5.more (Nat.le_succ k)) hkb)
  clear hD5 hl5 hk5
  go_wp2_with (go_at_call 16; refine (item_any _ _ _ _ _).mono ?_; rintro e w' ⟨⟨cd, ao2, n2, cap2, rfl⟩, z2, rfl⟩)
  refine bodyPost_ret (v := .agg #[.int .u8 cd, .slice ao2 n2 cap2]) (by simp [results, Tryz.results6, go_sem, ↓IntWalk.iteOmega, *]) rfl ?_
  exact FIN.out _ _ _ rfl (by (repeat (first | with_reducible exact KeptBut.refl _ _ | with_reducible refine KeptBut.ex ?_ _ | with_reducible refine KeptBut.al ?_ _ | with_reducible refine KeptBut.set' ?_ _ _)))

theorem do_peek (A B C D : Int) (ao : Option Addr) (n cap : Nat) (lab : Nat → Nat) (d k : Nat) (O : Option TabS) (w : World) (h : Desk w lab d k O) (hk9 : k ≤ 900000) : Calls Tryz.prog 6 #[.pointer (some ⟨d, 0, none⟩), .agg #[.int .i64 (16), .int .i64 (A), .int .i64 (B), .int .i64 (C), .int .i64 (D), .slice ao n cap]] w (doPost lab d k (fun _ => True) O w) := by
  obtain ⟨⟨tv, N, S, hd, hm, hcn, ht⟩, hl⟩ := h
  have HD := hid hd
  have HM := hid hm
  have HCN := hid hcn
  have HO := hid ht
  have HL := hid hl
  have ld := hd.lt
  have lF := hl (w.heap.size + 1) (by omega)
  clear hd hm hcn ht hl
  go_enter Tryz.func6, Tryz.ntmps6
  go_wp2_with (first | (go_at_call 18; refine (hpeek_any d lab tv _ k _ (HD.out.below (by (repeat (first | with_reducible exact Below.rf _ | with_reducible exact World.below_ext _ _ | with_reducible refine Below.ex ?_ _ | with_reducible refine Below.al ?_ _ | with_reducible refine Below.setCell ?_ (by simp) _ | with_reducible refine Below.drew ?_))))).mono ?_; rintro e w' ⟨⟨x0, x1, x2, xf, rfl⟩, z1, rfl⟩) | (go_at_call 16; refine (item_any _ _ _ _ _).mono ?_; rintro e w' ⟨⟨cd, ao2, n2, cap2, rfl⟩, z2, rfl⟩))
  refine bodyPost_ret (v := .agg #[.int .u8 cd, .slice ao2 n2 cap2]) (by simp [results, Tryz.results6, go_sem, ↓IntWalk.iteOmega, *]) rfl ?_
  exact do_finH (w1 := World.ext _ _) (w5 := World.ext _ _) (A := fun x => x = 1 ∨ x = 2) HM.out HCN.out HO.out HL.out (by (repeat (first | with_reducible exact Below.rf _ | with_reducible exact World.below_ext _ _ | with_reducible refine Below.ex ?_ _ | with_reducible refine Below.al ?_ _ | with_reducible refine Below.setCell ?_ (by simp) _ | with_reducible refine Below.drew ?_))) (by simp <;> omega) (KeptL.refl lab _ _) (fun x hx => hx) (fun _ _ => rfl) ((HD.out.more (Nat.le_succ k)).below (by (repeat (first | with_reducible exact Below.rf _ | with_reducible exact World.below_ext _ _ | with_reducible refine Below.ex ?_ _ | with_reducible refine Below.al ?_ _ | with_reducible refine Below.setCell ?_ (by simp) _ | with_reducible refine Below.drew ?_)))) (KeptBut.refl _ _)

theorem do_hlen (A B C D : Int) (ao : Option Addr) (n cap : Nat) (lab : Nat → Nat) (d k : Nat) (O : Option TabS) (w : World) (h : Desk w lab d k O) (hk9 : k ≤ 900000) : Calls Tryz.prog 6 #[.pointer (some ⟨d, 0, none⟩), .agg #[.int .i64 (17), .int .i64 (A), .int .i64 (B), .int .i64 (C), .int .i64 (D), .slice ao n cap]] w (doPost lab d k (fun _ => True) O w) := by
  obtain ⟨⟨tv, N, S, hd, hm, hcn, ht⟩, hl⟩ := h
  have HD := hid hd
  have HM := hid hm
  have HCN := hid hcn
  have HO := hid ht
  have HL := hid hl
  have ld := hd.lt
  have lF := hl (w.heap.size + 1) (by omega)
  clear hd hm hcn ht hl
  go_enter Tryz.func6, Tryz.ntmps6
  go_wp2_with (first | (go_at_call 19; refine (hlen_any d lab tv _ k _ (HD.out.below (by (repeat (first | with_reducible exact Below.rf _ | with_reducible exact World.below_ext _ _ | with_reducible refine Below.ex ?_ _ | with_reducible refine Below.al ?_ _ | with_reducible refine Below.setCell ?_ (by simp) _ | with_reducible refine Below.drew ?_))))).mono ?_; rintro e w' ⟨⟨hn, hn2, rfl⟩, rfl⟩) | (go_at_call 15; refine (ok_any _ ⟨_, _, _, rfl⟩ _).mono ?_; rintro e w' ⟨rfl, z2, rfl⟩))
  refine bodyPost_ret (v := .agg #[.int .u8 0, .slice (some ⟨w.heap.size + 1 + 1, 0, none⟩) 1 1]) (by simp [results, Tryz.results6, go_sem, ↓IntWalk.iteOmega, *]) rfl ?_
  exact do_finH (w1 := World.ext _ _) (w5 := World.ext _ _) (A := fun x => x = 1 ∨ x = 2) HM.out HCN.out HO.out HL.out (by (repeat (first | with_reducible exact Below.rf _ | with_reducible exact World.below_ext _ _ | with_reducible refine Below.ex ?_ _ | with_reducible refine Below.al ?_ _ | with_reducible refine Below.setCell ?_ (by simp) _ | with_reducible refine Below.drew ?_))) (by simp <;> omega) (KeptL.refl lab _ _) (fun x hx => hx) (fun _ _ => rfl) ((HD.out.more (Nat.le_succ k)).below (by (repeat (first | with_reducible exact Below.rf _ | with_reducible exact World.below_ext _ _ | with_reducible refine Below.ex ?_ _ | with_reducible refine Below.al ?_ _ | with_reducible refine Below.setCell ?_ (by simp) _ | with_reducible refine Below.drew ?_)))) (KeptBut.refl _ _)

theorem do_hreset (A B C D : Int) (ao : Option Addr) (n cap : Nat) (lab : Nat → Nat) (d k : Nat) (O : Option TabS) (w : World) (h : Desk w lab d k O) (hk9 : k ≤ 900000) : Calls Tryz.prog 6 #[.pointer (some ⟨d, 0, none⟩), .agg #[.int .i64 (18), .int .i64 (A), .int .i64 (B), .int .i64 (C), .int .i64 (D), .slice ao n cap]] w (doPost lab d k (fun _ => True) O w) := by
  obtain ⟨⟨tv, N, S, hd, hm, hcn, ht⟩, hl⟩ := h
  have HD := hid hd
  have HM := hid hm
  have HCN := hid hcn
  have HO := hid ht
  have HL := hid hl
  have ld := hd.lt
  have lF := hl (w.heap.size + 1) (by omega)
  clear hd hm hcn ht hl
  go_enter Tryz.func6, Tryz.ntmps6
  go_wp2_with (go_at_call 20; refine hold ?_)
  unfold Hid
  refine (hreset_any d lab tv _ k _ (HD.out.below (by (repeat (first | with_reducible exact Below.rf _ | with_reducible exact World.below_ext _ _ | with_reducible refine Below.ex ?_ _ | with_reducible refine Below.al ?_ _ | with_reducible refine Below.setCell ?_ (by simp) _ | with_reducible refine Below.drew ?_))))).mono ?_
  rintro e w5 ⟨rfl, lab5, hD5, hl5, hk5⟩
  have f0 := hk5.cell (b := w.heap.size + 1) 0 (by simp <;> omega) (by rw [lF]; simp)
  have f1 := hk5.cell (b := w.heap.size + 1) 1 (by simp <;> omega) (by rw [lF]; simp)
  have f2 := hk5.frozen (b := w.heap.size + 1) 0 (by simp <;> omega) (by rw [lF]; simp)
  have f3 := hk5.frozen (b := w.heap.size + 1) 1 (by simp <;> omega) (by rw [lF]; simp)
  simp [go_sem, ↓IntWalk.iteOmega] at f0 f1 f2 f3
  have s5 := hk5.size
  simp at s5
  have FIN := hid (fun w6 c v hv hkb => do_finH (w6 := w6) (c := c) (v := v) (hv := hv) HM.out HCN.out HO.out HL.out (by (repeat (first | with_reducible exact Below.rf _ | with_reducible exact World.below_ext _ _ | with_reducible refine Below.ex ?_ _ | with_reducible refine Below.al ?_ _ | with_reducible refine Below.setCell ?_ (by simp) _ | with_reducible refine Below.drew ?_))) (by simp) hk5 (fun x hx => hx) hl5 (hD5.more (Nat.le_succ k)) hkb)
  clear hD5 hl5 hk5
  go_wp2_with (go_at_call 15; refine (ok_any _ ⟨_, _, _, rfl⟩ _).mono ?_; rintro e w' ⟨rfl, z2, rfl⟩)
  refine bodyPost_ret (v := .agg #[.int .u8 0, .slice none 0 0]) (by simp [results, Tryz.results6, go_sem, ↓IntWalk.iteOmega, *]) rfl ?_
  exact FIN.out _ _ _ rfl (by (repeat (first | with_reducible exact KeptBut.refl _ _ | with_reducible refine KeptBut.ex ?_ _ | with_reducible refine KeptBut.al ?_ _ | with_reducible refine KeptBut.set' ?_ _ _)))
end Go.Proofs.Qxb6500717aGreat
