/-
  'do', exactly: the marks; a new table.
-/
import Derived.Test.Qxb6500717aGreatDoX4
namespace Go.Proofs.Qxb6500717aGreat
open Go.RowKit
set_option linter.unusedSimpArgs false
set_option linter.unusedVariables false
set_option maxRecDepth 20000
set_option maxHeartbeats 4000000

theorem dx_mcount (A B C D : Int) (ao : Option Addr) (n cap : Nat) (lab : Nat → Nat) (d k : Nat) (Q : DkS) (w : World) (h : DeskX w lab d k Q) (hk9 : k ≤ 900000) : Calls Tryz.prog 6 #[.pointer (some ⟨d, 0, none⟩), .agg #[.int .i64 (22), .int .i64 (A), .int .i64 (B), .int .i64 (C), .int .i64 (D), .slice ao n cap]] w (doXPost lab d k (((0, [(Q.S.cn : Int)]), Q)) w) := by
  have HDK := hid h
  obtain ⟨⟨tv, N, hd, hm, ht⟩, hl, hp, hbk⟩ := h
  have HD := hid hd
  have HM := hid hm
  have HO := hid ht
  have HL := hid hl
  have HP := hid hp
  have HBK := hid hbk
  have ld := hd.lt
  have lF := hl (w.heap.size + 1) (by omega)
  clear hd hm ht hl hp hbk
  have c3 := HD.out.c3
  go_enter Tryz.func6, Tryz.ntmps6
  go_wp2_with (first | (go_at_call 24; refine (mcount_any N Q.S lab _ (HM.out.below (by (repeat (first | with_reducible exact Below.rf _ | with_reducible exact World.below_ext _ _ | with_reducible refine Below.ex ?_ _ | with_reducible refine Below.al ?_ _ | with_reducible refine Below.setCell ?_ (by simp) _ | with_reducible refine Below.drew ?_))))).mono ?_; rintro e w' ⟨rfl, rfl⟩) | (go_at_call 15; refine (ok_any _ ⟨_, _, _, rfl⟩ _).mono ?_; rintro e w' ⟨rfl, z9, rfl⟩))
  refine bodyPost_ret (v := .agg #[.int .u8 0, .slice (some ⟨w.heap.size + 1 + 1, 0, none⟩) 1 1]) (by simp [results, Tryz.results6, go_sem, ↓IntWalk.iteOmega, *]) rfl ?_
  exact doX_fin (D' := Q) HL.out (by (repeat (first | with_reducible exact Below.rf _ | with_reducible exact World.below_ext _ _ | with_reducible refine Below.ex ?_ _ | with_reducible refine Below.al ?_ _ | with_reducible refine Below.setCell ?_ (by simp) _ | with_reducible refine Below.drew ?_))) (by simp <;> omega) (KeptL.refl lab tabL _) (fun x hx => by unfold tabL at hx; unfold tagL; omega) (fun _ _ => rfl) (HD.out.below (by (repeat (first | with_reducible exact Below.rf _ | with_reducible exact World.below_ext _ _ | with_reducible refine Below.ex ?_ _ | with_reducible refine Below.al ?_ _ | with_reducible refine Below.setCell ?_ (by simp) _ | with_reducible refine Below.drew ?_)))) (HM.out.below (by (repeat (first | with_reducible exact Below.rf _ | with_reducible exact World.below_ext _ _ | with_reducible refine Below.ex ?_ _ | with_reducible refine Below.al ?_ _ | with_reducible refine Below.setCell ?_ (by simp) _ | with_reducible refine Below.drew ?_)))) (HO.out.carry (by (repeat (first | with_reducible exact Below.rf _ | with_reducible exact World.below_ext _ _ | with_reducible refine Below.ex ?_ _ | with_reducible refine Below.al ?_ _ | with_reducible refine Below.setCell ?_ (by simp) _ | with_reducible refine Below.drew ?_))) (KeptL.refl lab (fun _ => False) _) (fun _ _ => rfl) (fun _ _ h => h)) (KeptBut.refl _ _) HP.out ⟨Nat.le_succ_of_le HBK.out.1, Nat.le_succ_of_le HBK.out.2.1, Nat.le_succ_of_le HBK.out.2.2⟩ (IntsAt.one (by first | omega | (simp <;> omega)) (by simp <;> omega) (by simp [go_sem, ↓IntWalk.iteOmega]))
def MkS.markX (S : MkS) (i v : Int) : Bool × MkS := if 0 ≤ i ∧ i < S.n then (true, S.set i.toNat v) else (false, S)
theorem mset_ex (N : MkM) (S : MkS) (lab : Nat → Nat) (i v : Int) (w : World) (h : MkAt w lab N S) (hcn : S.cn ≤ 1000000000) : Calls Tryz.prog 21 #[.pointer (some ⟨N.m, 0, none⟩), .int .i64 (i), .int .i64 (v)] w fun e w' => e = .returned (.bool (S.markX i v).1) ∧ MkAt w' lab N (S.markX i v).2 ∧ (S.markX i v).2.cn ≤ S.cn + 1 ∧ KeptL lab markL w w' := by
  by_cases hi : 0 ≤ i ∧ i < S.n
  · obtain ⟨m, rfl⟩ := Int.eq_ofNat_of_zero_le hi.1
    refine (mset_any N S lab m v w h (by omega) hcn).mono ?_
    rintro e w' ⟨rfl, h1, h2⟩
    rw [show S.markX m v = (true, S.set m v) from by unfold MkS.markX; rw [if_pos hi]; rfl]
    refine ⟨rfl, h1, ?_, h2⟩
    unfold MkS.set
    split
    · exact Nat.le_succ _
    · exact Nat.le_refl _
  · refine (mset_no N S lab i v w h hi).mono ?_
    rintro e w' ⟨rfl, h1, h2⟩
    rw [show S.markX i v = (false, S) from if_neg hi]
    exact ⟨rfl, h1, Nat.le_succ _, h2⟩
def okC (b : Bool) : Int := if b then 0 else 2
theorem dx_mark (A B C D : Int) (ao : Option Addr) (n cap : Nat) (lab : Nat → Nat) (d k : Nat) (Q : DkS) (w : World) (h : DeskX w lab d k Q) (hk9 : k ≤ 900000) : Calls Tryz.prog 6 #[.pointer (some ⟨d, 0, none⟩), .agg #[.int .i64 (20), .int .i64 (A), .int .i64 (B), .int .i64 (C), .int .i64 (D), .slice ao n cap]] w (doXPost lab d k (((okC (Q.S.markX A B).1, []), { Q with S := (Q.S.markX A B).2 })) w) := by
  have HDK := hid h
  obtain ⟨⟨tv, N, hd, hm, ht⟩, hl, hp, hbk⟩ := h
  have HD := hid hd
  have HM := hid hm
  have HO := hid ht
  have HL := hid hl
  have HP := hid hp
  have HBK := hid hbk
  have ld := hd.lt
  have lF := hl (w.heap.size + 1) (by omega)
  clear hd hm ht hl hp hbk
  have c3 := HD.out.c3
  have MX := hid (fun w1 (hB : Below w.heap.size w w1) => mset_ex N Q.S lab A B w1 (HM.out.below hB) (by have := HBK.out; omega))
  obtain ⟨X, hX⟩ : ∃ x, Q.S.markX A B = x := ⟨_, rfl⟩
  simp only [hX] at MX ⊢
  clear hX
  obtain ⟨b, S'⟩ := X
  simp only at MX ⊢
  go_enter Tryz.func6, Tryz.ntmps6
  go_wp2
  first | with_reducible refine wp_region_tail_ext2 8 (by kernel_rfl) (by kernel_rfl) ?_ | refine wp_region_tail_ext 8 (by kernel_rfl) (by kernel_rfl) ?_
  simp only [List.take_succ_cons, List.take_zero, List.drop_succ_cons, List.drop_zero]
  repeat (go_big_quiet_step (fail))
  refine wpQuiet_nil ?_
  rintro _ ⟨z, rfl⟩
  go_wp2_with (go_at_call 21; refine hold ?_)
  unfold Hid
  refine (MX.out _ (by (repeat (first | with_reducible exact Below.rf _ | with_reducible exact World.below_ext _ _ | with_reducible refine Below.ex ?_ _ | with_reducible refine Below.al ?_ _ | with_reducible refine Below.setCell ?_ (by simp) _ | with_reducible refine Below.drew ?_)))).mono ?_
  rintro e w5 ⟨rfl, hM5, hc5, hk5⟩
  have f0 := hk5.cell (b := w.heap.size + 1) 0 (by simp <;> omega) (by rw [lF]; simp [markL])
  have f1 := hk5.cell (b := w.heap.size + 1) 1 (by simp <;> omega) (by rw [lF]; simp [markL])
  have f2 := hk5.frozen (b := w.heap.size + 1) 0 (by simp <;> omega) (by rw [lF]; simp [markL])
  have f3 := hk5.frozen (b := w.heap.size + 1) 1 (by simp <;> omega) (by rw [lF]; simp [markL])
  simp [go_sem, ↓IntWalk.iteOmega] at f0 f1 f2 f3
  have s5 := hk5.size
  simp at s5
  have FIN := hid (fun w6 v vals c hv hkb => doX_fin (w6 := w6) (v := v) (vals := vals) (c := c) (D' := { Q with S := S' }) HL.out (by (repeat (first | with_reducible exact Below.rf _ | with_reducible exact World.below_ext _ _ | with_reducible refine Below.ex ?_ _ | with_reducible refine Below.al ?_ _ | with_reducible refine Below.setCell ?_ (by simp) _ | with_reducible refine Below.drew ?_))) (by simp <;> omega) hk5 (fun x hx => by unfold markL at hx; unfold tagL; omega) (fun _ _ => rfl) (HD.out.carry (by (repeat (first | with_reducible exact Below.rf _ | with_reducible exact World.below_ext _ _ | with_reducible refine Below.ex ?_ _ | with_reducible refine Below.al ?_ _ | with_reducible refine Below.setCell ?_ (by simp) _ | with_reducible refine Below.drew ?_))) hk5 (fun _ _ => rfl) (by simp [markL]) (by simp [markL])) hM5 (HO.out.carry (by (repeat (first | with_reducible exact Below.rf _ | with_reducible exact World.below_ext _ _ | with_reducible refine Below.ex ?_ _ | with_reducible refine Below.al ?_ _ | with_reducible refine Below.setCell ?_ (by simp) _ | with_reducible refine Below.drew ?_))) hk5 (fun _ _ => rfl) (fun x hx h => by unfold tabL at hx; unfold markL at h; omega)) hkb HP.out ⟨Nat.le_succ_of_le HBK.out.1, Nat.le_succ_of_le HBK.out.2.1, by have := HBK.out; simp only; omega⟩ hv)
  clear hM5 hc5 hk5 c3
  cases b with
  | true =>
    go_wp2_with (go_at_call 15; refine (ok_any _ ⟨_, _, _, rfl⟩ _).mono ?_; rintro e w' ⟨rfl, z9, rfl⟩)
    refine bodyPost_ret (v := .agg #[.int .u8 0, .slice none 0 0]) (by simp [results, Tryz.results6, go_sem, ↓IntWalk.iteOmega, *]) rfl ?_
    exact FIN.out _ _ _ _ (IntsAt.nil _ _) (by (repeat (first | with_reducible exact KeptBut.refl _ _ | with_reducible refine KeptBut.ex ?_ _ | with_reducible refine KeptBut.al ?_ _ | with_reducible refine KeptBut.set' ?_ _ _)))
  | false =>
    go_wp2
    refine bodyPost_ret (v := .agg #[.int .u8 2, .slice none 0 0]) (by simp [results, Tryz.results6, go_sem, ↓IntWalk.iteOmega, *]) rfl ?_
    exact FIN.out _ _ _ _ (IntsAt.nil _ _) (by (repeat (first | with_reducible exact KeptBut.refl _ _ | with_reducible refine KeptBut.ex ?_ _ | with_reducible refine KeptBut.al ?_ _ | with_reducible refine KeptBut.set' ?_ _ _)))
def lookA (S : MkS) (i : Int) : Int × List Int := if S.has i then (0, [S.vl i.toNat]) else (9, [])
theorem dx_look (A B C D : Int) (ao : Option Addr) (n cap : Nat) (lab : Nat → Nat) (d k : Nat) (Q : DkS) (w : World) (h : DeskX w lab d k Q) (hk9 : k ≤ 900000) : Calls Tryz.prog 6 #[.pointer (some ⟨d, 0, none⟩), .agg #[.int .i64 (21), .int .i64 (A), .int .i64 (B), .int .i64 (C), .int .i64 (D), .slice ao n cap]] w (doXPost lab d k ((lookA Q.S A, Q)) w) := by
  have HDK := hid h
  obtain ⟨⟨tv, N, hd, hm, ht⟩, hl, hp, hbk⟩ := h
  have HD := hid hd
  have HM := hid hm
  have HO := hid ht
  have HL := hid hl
  have HP := hid hp
  have HBK := hid hbk
  have ld := hd.lt
  have lF := hl (w.heap.size + 1) (by omega)
  clear hd hm ht hl hp hbk
  have c3 := HD.out.c3
  have G := hid (fun w1 (hB : Below w.heap.size w w1) => mget_any N Q.S lab A w1 (HM.out.below hB))
  have H := hid (fun w1 (hB : Below w.heap.size w w1) => mhas_any N Q.S lab A w1 (HM.out.below hB))
  unfold lookA
  cases hh : Q.S.has A with
  | true =>
    rw [hh] at G H
    simp only [if_true] at G ⊢
    generalize Q.S.vl A.toNat = vv at *
    clear hh
    go_enter Tryz.func6, Tryz.ntmps6
    go_wp2
    first | with_reducible refine wp_region_ext2 (by kernel_rfl) (by kernel_rfl) ?_ | refine wp_region_ext (by kernel_rfl) (by kernel_rfl) ?_
    repeat (go_big_quiet_step ((go_at_call 22; exact Calls.ext_of (G.out _ (by (repeat (first | with_reducible exact Below.rf _ | with_reducible exact World.below_ext _ _ | with_reducible refine Below.ex ?_ _ | with_reducible refine Below.al ?_ _ | with_reducible refine Below.setCell ?_ (by simp) _ | with_reducible refine Below.drew ?_)))))))
    refine wpQuiet_nil ?_
    rintro _ ⟨z, rfl⟩
    go_wp2
    first | with_reducible refine wp_region_ext2 (by kernel_rfl) (by kernel_rfl) ?_ | refine wp_region_ext (by kernel_rfl) (by kernel_rfl) ?_
    repeat (go_big_quiet_step ((go_at_call 23; exact Calls.ext_of (H.out _ (by (repeat (first | with_reducible exact Below.rf _ | with_reducible exact World.below_ext _ _ | with_reducible refine Below.ex ?_ _ | with_reducible refine Below.al ?_ _ | with_reducible refine Below.setCell ?_ (by simp) _ | with_reducible refine Below.drew ?_)))))))
    refine wpQuiet_nil ?_
    rintro _ ⟨z, rfl⟩
    go_wp2_with (go_at_call 15; refine (ok_any _ ⟨_, _, _, rfl⟩ _).mono ?_; rintro e w' ⟨rfl, z9, rfl⟩)
    refine bodyPost_ret (v := .agg #[.int .u8 0, .slice (some ⟨w.heap.size + 1 + 1 + z.heap.size, 0, none⟩) 1 1]) (by simp [results, Tryz.results6, go_sem, ↓IntWalk.iteOmega, *]) rfl ?_
    exact doX_fin (D' := Q) HL.out (by (repeat (first | with_reducible exact Below.rf _ | with_reducible exact World.below_ext _ _ | with_reducible refine Below.ex ?_ _ | with_reducible refine Below.al ?_ _ | with_reducible refine Below.setCell ?_ (by simp) _ | with_reducible refine Below.drew ?_))) (by simp <;> omega) (KeptL.refl lab tabL _) (fun x hx => by unfold tabL at hx; unfold tagL; omega) (fun _ _ => rfl) (HD.out.below (by (repeat (first | with_reducible exact Below.rf _ | with_reducible exact World.below_ext _ _ | with_reducible refine Below.ex ?_ _ | with_reducible refine Below.al ?_ _ | with_reducible refine Below.setCell ?_ (by simp) _ | with_reducible refine Below.drew ?_)))) (HM.out.below (by (repeat (first | with_reducible exact Below.rf _ | with_reducible exact World.below_ext _ _ | with_reducible refine Below.ex ?_ _ | with_reducible refine Below.al ?_ _ | with_reducible refine Below.setCell ?_ (by simp) _ | with_reducible refine Below.drew ?_)))) (HO.out.carry (by (repeat (first | with_reducible exact Below.rf _ | with_reducible exact World.below_ext _ _ | with_reducible refine Below.ex ?_ _ | with_reducible refine Below.al ?_ _ | with_reducible refine Below.setCell ?_ (by simp) _ | with_reducible refine Below.drew ?_))) (KeptL.refl lab (fun _ => False) _) (fun _ _ => rfl) (fun _ _ h => h)) (KeptBut.refl _ _) HP.out ⟨Nat.le_succ_of_le HBK.out.1, Nat.le_succ_of_le HBK.out.2.1, Nat.le_succ_of_le HBK.out.2.2⟩ (IntsAt.one (by first | omega | (simp <;> omega)) (by simp <;> omega) (by simp [go_sem, ↓IntWalk.iteOmega]))
  | false =>
    rw [hh] at G H
    simp only [Bool.false_eq_true, if_false] at G ⊢
    clear hh
    go_enter Tryz.func6, Tryz.ntmps6
    go_wp2
    first | with_reducible refine wp_region_ext2 (by kernel_rfl) (by kernel_rfl) ?_ | refine wp_region_ext (by kernel_rfl) (by kernel_rfl) ?_
    repeat (go_big_quiet_step ((go_at_call 22; exact Calls.ext_of (G.out _ (by (repeat (first | with_reducible exact Below.rf _ | with_reducible exact World.below_ext _ _ | with_reducible refine Below.ex ?_ _ | with_reducible refine Below.al ?_ _ | with_reducible refine Below.setCell ?_ (by simp) _ | with_reducible refine Below.drew ?_)))))))
    refine wpQuiet_nil ?_
    rintro _ ⟨z, rfl⟩
    go_wp2
    first | with_reducible refine wp_region_ext2 (by kernel_rfl) (by kernel_rfl) ?_ | refine wp_region_ext (by kernel_rfl) (by kernel_rfl) ?_
    repeat (go_big_quiet_step (fail))
    refine wpQuiet_nil ?_
    rintro _ ⟨z, rfl⟩
    go_wp2
    refine bodyPost_ret (v := .agg #[.int .u8 9, .slice none 0 0]) (by simp [results, Tryz.results6, go_sem, ↓IntWalk.iteOmega, *]) rfl ?_
    exact doX_fin (D' := Q) HL.out (by (repeat (first | with_reducible exact Below.rf _ | with_reducible exact World.below_ext _ _ | with_reducible refine Below.ex ?_ _ | with_reducible refine Below.al ?_ _ | with_reducible refine Below.setCell ?_ (by simp) _ | with_reducible refine Below.drew ?_))) (by simp <;> omega) (KeptL.refl lab tabL _) (fun x hx => by unfold tabL at hx; unfold tagL; omega) (fun _ _ => rfl) (HD.out.below (by (repeat (first | with_reducible exact Below.rf _ | with_reducible exact World.below_ext _ _ | with_reducible refine Below.ex ?_ _ | with_reducible refine Below.al ?_ _ | with_reducible refine Below.setCell ?_ (by simp) _ | with_reducible refine Below.drew ?_)))) (HM.out.below (by (repeat (first | with_reducible exact Below.rf _ | with_reducible exact World.below_ext _ _ | with_reducible refine Below.ex ?_ _ | with_reducible refine Below.al ?_ _ | with_reducible refine Below.setCell ?_ (by simp) _ | with_reducible refine Below.drew ?_)))) (HO.out.carry (by (repeat (first | with_reducible exact Below.rf _ | with_reducible exact World.below_ext _ _ | with_reducible refine Below.ex ?_ _ | with_reducible refine Below.al ?_ _ | with_reducible refine Below.setCell ?_ (by simp) _ | with_reducible refine Below.drew ?_))) (KeptL.refl lab (fun _ => False) _) (fun _ _ => rfl) (fun _ _ h => h)) (KeptBut.refl _ _) HP.out ⟨Nat.le_succ_of_le HBK.out.1, Nat.le_succ_of_le HBK.out.2.1, Nat.le_succ_of_le HBK.out.2.2⟩ (IntsAt.nil _ _)
end Go.Proofs.Qxb6500717aGreat
