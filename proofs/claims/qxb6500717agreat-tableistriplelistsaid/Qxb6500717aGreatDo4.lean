/-
  'do': the steps on the marks; a new table; no table.
-/
import Derived.Test.Qxb6500717aGreatDo3
namespace Go.Proofs.Qxb6500717aGreat
open Go.RowKit
set_option linter.unusedSimpArgs false
set_option linter.unusedVariables false
set_option maxRecDepth 20000
set_option maxHeartbeats 4000000



/-- Only the marks are written. -/
theorem do_finM {w w1 w5 w6 : World} {lab : Nat → Nat} {d k : Nat} {tv : Value} {O : Option TabS} {N : MkM} {S' : MkS} {c : Int} {v : Value}
    (HD : DAt w lab d tv (.pointer (some ⟨N.m, 0, none⟩)) (k + 1)) (HO : TabO w lab tv O) (HL : ∀ j, w.heap.size ≤ j → lab j = 0) (hB : Below w.heap.size w w1) (hs : w.heap.size + 1 < w1.heap.size)
    (hk : KeptL lab markL w1 w5) (hM : MkAt w5 lab N S') (hcn : S'.cn ≤ k + 1) (hkb : KeptBut (w.heap.size + 1) w5 w6) (hv : isSl v = true := by rfl) :
    doPost lab d k (fun _ => True) O w (.returned (.agg #[.int .u8 c, v])) w6 := by
  have hz : lab (w.heap.size + 1) = 0 := HL _ (by omega)
  have s5 := hk.size
  have hs1 := hB.size
  have s6 := hkb.size
  have key : ∀ j, j < w.heap.size → ¬ markL (lab j) → w6.heap[j]? = w.heap[j]? := fun j hj hna => by
    rw [hkb.block j (by omega) (by omega), hk.block j (by omega) hna, hB.block j hj]
  refine doPost.make (tv := tv) (N := N) (S := S') trivial (HD.of (by omega) (fun _ _ => rfl) (fun j hj hl => key j hj (by unfold markL; omega))) (hM.of s6 (fun _ _ => rfl) (fun j hj hl => hkb.block j hj (fun e => by rw [e, hz] at hl; omega))) hcn ?_ (fun j hj => rfl) ?_ hv
  · cases O with
    | none => exact HO
    | some T =>
      obtain ⟨M, h1, h2, h3⟩ := HO
      exact ⟨M, h1, h2.of (by omega) (fun j hj => rfl) (fun j hj ht => key j hj (by unfold tabL at ht; unfold markL; omega)), h3⟩
  · refine ⟨?_, ?_, ?_, by omega, fun j hj hn => ?_⟩
    · rw [hkb.os, hk.os, hB.os]
    · rw [hkb.tape, hk.tape, hB.tape]
    · rw [hkb.output, hk.output, hB.output]
    · exact key j hj (fun h => hn (by unfold markL at h; unfold tagL; omega))

theorem do_mcount (A B C D : Int) (ao : Option Addr) (n cap : Nat) (lab : Nat → Nat) (d k : Nat) (O : Option TabS) (w : World) (h : Desk w lab d k O) (hk9 : k ≤ 900000) : Calls Tryz.prog 6 #[.pointer (some ⟨d, 0, none⟩), .agg #[.int .i64 (22), .int .i64 (A), .int .i64 (B), .int .i64 (C), .int .i64 (D), .slice ao n cap]] w (doPost lab d k (fun _ => True) O w) := by
  obtain ⟨⟨tv, N, S, hd, hm, hcn, ht⟩, hl⟩ := h
  have HD := hid hd
  have HM := hid hm
  have HCN := hid hcn
  have HO := hid ht
  have HL := hid hl
  have ld := hd.lt
  have lF := hl (w.heap.size + 1) (by omega)
  clear hd hm hcn ht hl
  have c3 := HD.out.c3
  go_enter Tryz.func6, Tryz.ntmps6
  go_wp2_with (first | (go_at_call 24; refine (mcount_any N S lab _ (HM.out.below (by (repeat (first | with_reducible exact Below.rf _ | with_reducible exact World.below_ext _ _ | with_reducible refine Below.ex ?_ _ | with_reducible refine Below.al ?_ _ | with_reducible refine Below.setCell ?_ (by simp) _ | with_reducible refine Below.drew ?_))))).mono ?_; rintro e w' ⟨rfl, rfl⟩) | (go_at_call 15; refine (ok_any _ ⟨_, _, _, rfl⟩ _).mono ?_; rintro e w' ⟨rfl, z2, rfl⟩))
  refine bodyPost_ret (v := .agg #[.int .u8 0, .slice (some ⟨w.heap.size + 1 + 1, 0, none⟩) 1 1]) (by simp [results, Tryz.results6, go_sem, ↓IntWalk.iteOmega, *]) rfl ?_
  exact do_finM (w1 := World.ext _ _) (w5 := World.ext _ _) (HD.out.more (Nat.le_succ k)) HO.out HL.out (by (repeat (first | with_reducible exact Below.rf _ | with_reducible exact World.below_ext _ _ | with_reducible refine Below.ex ?_ _ | with_reducible refine Below.al ?_ _ | with_reducible refine Below.setCell ?_ (by simp) _ | with_reducible refine Below.drew ?_))) (by simp <;> omega) (KeptL.refl lab _ _) (HM.out.below (by (repeat (first | with_reducible exact Below.rf _ | with_reducible exact World.below_ext _ _ | with_reducible refine Below.ex ?_ _ | with_reducible refine Below.al ?_ _ | with_reducible refine Below.setCell ?_ (by simp) _ | with_reducible refine Below.drew ?_)))) (Nat.le_succ_of_le HCN.out) (KeptBut.refl _ _)

theorem mset_all (N : MkM) (S : MkS) (lab : Nat → Nat) (i v : Int) (w : World) (h : MkAt w lab N S) (hcn : S.cn ≤ 1000000000) : Calls Tryz.prog 21 #[.pointer (some ⟨N.m, 0, none⟩), .int .i64 (i), .int .i64 (v)] w fun e w' => ∃ (b : Bool) (S' : MkS), e = .returned (.bool b) ∧ MkAt w' lab N S' ∧ S'.cn ≤ S.cn + 1 ∧ KeptL lab markL w w' := by
  by_cases hi : 0 ≤ i ∧ i < S.n
  · obtain ⟨m, rfl⟩ := Int.eq_ofNat_of_zero_le hi.1
    refine (mset_any N S lab m v w h (by omega) hcn).mono ?_
    rintro e w' ⟨rfl, h1, h2⟩
    refine ⟨true, _, rfl, h1, ?_, h2⟩
    unfold MkS.set
    split
    · exact Nat.le_succ _
    · exact Nat.le_refl _
  · refine (mset_no N S lab i v w h hi).mono ?_
    rintro e w' ⟨rfl, h1, h2⟩
    exact ⟨false, S, rfl, h1, Nat.le_succ _, h2⟩
theorem do_mark (A B C D : Int) (ao : Option Addr) (n cap : Nat) (lab : Nat → Nat) (d k : Nat) (O : Option TabS) (w : World) (h : Desk w lab d k O) (hk9 : k ≤ 900000) : Calls Tryz.prog 6 #[.pointer (some ⟨d, 0, none⟩), .agg #[.int .i64 (20), .int .i64 (A), .int .i64 (B), .int .i64 (C), .int .i64 (D), .slice ao n cap]] w (doPost lab d k (fun _ => True) O w) := by
  obtain ⟨⟨tv, N, S, hd, hm, hcn, ht⟩, hl⟩ := h
  have HD := hid hd
  have HM := hid hm
  have HCN := hid hcn
  have HO := hid ht
  have HL := hid hl
  have ld := hd.lt
  have lF := hl (w.heap.size + 1) (by omega)
  clear hd hm hcn ht hl
  have c3 := HD.out.c3
  go_enter Tryz.func6, Tryz.ntmps6
  go_wp2
  first | with_reducible refine wp_region_tail_ext2 8 (by kernel_rfl) (by kernel_rfl) ?_ | refine wp_region_tail_ext 8 (by kernel_rfl) (by kernel_rfl) ?_
  simp only [List.take_succ_cons, List.take_zero, List.drop_succ_cons, List.drop_zero]
  repeat (go_big_quiet_step (fail))
  refine wpQuiet_nil ?_
  rintro _ ⟨z, rfl⟩
  go_wp2_with (go_at_call 21; refine hold ?_)
  unfold Hid
  refine (mset_all N S lab A B _ (HM.out.below (by (repeat (first | with_reducible exact Below.rf _ | with_reducible exact World.below_ext _ _ | with_reducible refine Below.ex ?_ _ | with_reducible refine Below.al ?_ _ | with_reducible refine Below.setCell ?_ (by simp) _ | with_reducible refine Below.drew ?_)))) (by have := HCN.out; omega)).mono ?_
  rintro e w5 ⟨b, S', rfl, hM5, hc5, hk5⟩
  have f0 := hk5.cell (b := w.heap.size + 1) 0 (by simp <;> omega) (by rw [lF]; simp [markL])
  have f1 := hk5.cell (b := w.heap.size + 1) 1 (by simp <;> omega) (by rw [lF]; simp [markL])
  have f2 := hk5.frozen (b := w.heap.size + 1) 0 (by simp <;> omega) (by rw [lF]; simp [markL])
  have f3 := hk5.frozen (b := w.heap.size + 1) 1 (by simp <;> omega) (by rw [lF]; simp [markL])
  simp [go_sem, ↓IntWalk.iteOmega] at f0 f1 f2 f3
  have s5 := hk5.size
  simp at s5
  have FIN := hid (fun w6 c v hv hkb => do_finM (w6 := w6) (c := c) (v := v) (hv := hv) (HD.out.more (Nat.le_succ k)) HO.out HL.out (by (repeat (first | with_reducible exact Below.rf _ | with_reducible exact World.below_ext _ _ | with_reducible refine Below.ex ?_ _ | with_reducible refine Below.al ?_ _ | with_reducible refine Below.setCell ?_ (by simp) _ | with_reducible refine Below.drew ?_))) (by simp <;> omega) hk5 hM5 (by have := HCN.out; omega) hkb)
  clear hM5 hc5 hk5 c3
  cases b with
  | true =>
    go_wp2_with (go_at_call 15; refine (ok_any _ ⟨_, _, _, rfl⟩ _).mono ?_; rintro e w' ⟨rfl, z2, rfl⟩)
    refine bodyPost_ret (v := .agg #[.int .u8 0, .slice none 0 0]) (by simp [results, Tryz.results6, go_sem, ↓IntWalk.iteOmega, *]) rfl ?_
    exact FIN.out _ _ _ rfl (by (repeat (first | with_reducible exact KeptBut.refl _ _ | with_reducible refine KeptBut.ex ?_ _ | with_reducible refine KeptBut.al ?_ _ | with_reducible refine KeptBut.set' ?_ _ _)))
  | false =>
    go_wp2
    refine bodyPost_ret (v := .agg #[.int .u8 2, .slice none 0 0]) (by simp [results, Tryz.results6, go_sem, ↓IntWalk.iteOmega, *]) rfl ?_
    exact FIN.out _ _ _ rfl (by (repeat (first | with_reducible exact KeptBut.refl _ _ | with_reducible refine KeptBut.ex ?_ _ | with_reducible refine KeptBut.al ?_ _ | with_reducible refine KeptBut.set' ?_ _ _)))

theorem do_look (A B C D : Int) (ao : Option Addr) (n cap : Nat) (lab : Nat → Nat) (d k : Nat) (O : Option TabS) (w : World) (h : Desk w lab d k O) (hk9 : k ≤ 900000) : Calls Tryz.prog 6 #[.pointer (some ⟨d, 0, none⟩), .agg #[.int .i64 (21), .int .i64 (A), .int .i64 (B), .int .i64 (C), .int .i64 (D), .slice ao n cap]] w (doPost lab d k (fun _ => True) O w) := by
  obtain ⟨⟨tv, N, S, hd, hm, hcn, ht⟩, hl⟩ := h
  have HD := hid hd
  have HM := hid hm
  have HCN := hid hcn
  have HO := hid ht
  have HL := hid hl
  have ld := hd.lt
  have lF := hl (w.heap.size + 1) (by omega)
  clear hd hm hcn ht hl
  have c3 := HD.out.c3
  have G := hid (fun w1 (hB : Below w.heap.size w w1) => mget_any N S lab A w1 (HM.out.below hB))
  have H := hid (fun w1 (hB : Below w.heap.size w w1) => mhas_any N S lab A w1 (HM.out.below hB))
  cases hh : S.has A with
  | true =>
    rw [hh] at G H
    simp only [if_true] at G
    go_enter Tryz.func6, Tryz.ntmps6
    go_wp2
    first | with_reducible refine wp_region_ext2 (by kernel_rfl) (by kernel_rfl) ?_ | refine wp_region_ext (by kernel_rfl) (by kernel_rfl) ?_
    repeat (go_big_quiet_step ((go_at_call 22; exact Calls.ext_of (G.out _ (by (repeat (first | with_reducible exact Below.rf _ | with_reducible exact World.below_ext _ _ | with_reducible refine Below.ex ?_ _ | with_reducible refine Below.al ?_ _ | with_reducible refine Below.setCell ?_ (by simp) _ | with_reducible refine Below.drew ?_)))))))
    refine wpQuiet_nil ?_
    rintro _ ⟨z, rfl⟩
    go_wp2
    first | with_reducible refine wp_region_ext2 (by kernel_rfl) (by kernel_rfl) ?_ | refine wp_region_ext (by kernel_rfl) (by kernel_rfl) ?_
    repeat (go_big_quiet_step ((go_at_call 23; exact Calls.ext_of (H.out _ (by (repeat (first | with_reducible exact Below.rf _ | with_reducible exact World.below_ext _ _ | with_reducible refine Below.ex ?_ _ | with_reducible refine Below.al ?_ _ | with_reducible refine Below.setCell ?_ (by simp) _ | with_reducible refine Below.drew ?_)))))))
    refine wpQuiet_nil ?_
    rintro _ ⟨z, rfl⟩
    go_wp2_with (go_at_call 15; refine (ok_any _ ⟨_, _, _, rfl⟩ _).mono ?_; rintro e w' ⟨rfl, z2, rfl⟩)
    refine bodyPost_ret (v := .agg #[.int .u8 0, .slice (some ⟨w.heap.size + 1 + 1 + z.heap.size, 0, none⟩) 1 1]) (by simp [results, Tryz.results6, go_sem, ↓IntWalk.iteOmega, *]) rfl ?_
    exact do_finM (w1 := World.ext _ _) (w5 := World.ext _ _) (HD.out.more (Nat.le_succ k)) HO.out HL.out (by (repeat (first | with_reducible exact Below.rf _ | with_reducible exact World.below_ext _ _ | with_reducible refine Below.ex ?_ _ | with_reducible refine Below.al ?_ _ | with_reducible refine Below.setCell ?_ (by simp) _ | with_reducible refine Below.drew ?_))) (by simp <;> omega) (KeptL.refl lab _ _) (HM.out.below (by (repeat (first | with_reducible exact Below.rf _ | with_reducible exact World.below_ext _ _ | with_reducible refine Below.ex ?_ _ | with_reducible refine Below.al ?_ _ | with_reducible refine Below.setCell ?_ (by simp) _ | with_reducible refine Below.drew ?_)))) (Nat.le_succ_of_le HCN.out) (KeptBut.refl _ _)
  | false =>
    rw [hh] at G H
    go_enter Tryz.func6, Tryz.ntmps6
    go_wp2
    first | with_reducible refine wp_region_ext2 (by kernel_rfl) (by kernel_rfl) ?_ | refine wp_region_ext (by kernel_rfl) (by kernel_rfl) ?_
    repeat (go_big_quiet_step ((go_at_call 22; exact Calls.ext_of (G.out _ (by (repeat (first | with_reducible exact Below.rf _ | with_reducible exact World.below_ext _ _ | with_reducible refine Below.ex ?_ _ | with_reducible refine Below.al ?_ _ | with_reducible refine Below.setCell ?_ (by simp) _ | with_reducible refine Below.drew ?_)))))))
    refine wpQuiet_nil ?_
    rintro _ ⟨z, rfl⟩
    go_wp2
    first | with_reducible refine wp_region_ext2 (by kernel_rfl) (by kernel_rfl) ?_ | refine wp_region_ext (by kernel_rfl) (by kernel_rfl) ?_
    repeat (go_big_quiet_step (fail))
    refine wpQuiet_nil ?_
    rintro _ ⟨z, rfl⟩
    go_wp2
    refine bodyPost_ret (v := .agg #[.int .u8 9, .slice none 0 0]) (by simp [results, Tryz.results6, go_sem, ↓IntWalk.iteOmega, *]) rfl ?_
    exact do_finM (w1 := World.ext _ _) (w5 := World.ext _ _) (HD.out.more (Nat.le_succ k)) HO.out HL.out (by (repeat (first | with_reducible exact Below.rf _ | with_reducible exact World.below_ext _ _ | with_reducible refine Below.ex ?_ _ | with_reducible refine Below.al ?_ _ | with_reducible refine Below.setCell ?_ (by simp) _ | with_reducible refine Below.drew ?_))) (by simp <;> omega) (KeptL.refl lab _ _) (HM.out.below (by (repeat (first | with_reducible exact Below.rf _ | with_reducible exact World.below_ext _ _ | with_reducible refine Below.ex ?_ _ | with_reducible refine Below.al ?_ _ | with_reducible refine Below.setCell ?_ (by simp) _ | with_reducible refine Below.drew ?_)))) (Nat.le_succ_of_le HCN.out) (KeptBut.refl _ _)

theorem DAt.setM {w : World} {lab : Nat → Nat} {d k : Nat} {tv mv mv' : Value} (h : DAt w lab d tv mv k) : DAt (w.setCell ⟨d, 3, none⟩ mv') lab d tv mv' k := by
  have oth : ∀ i, i ≠ 3 → (w.setCell ⟨d, 3, none⟩ mv').cell? ⟨d, i, none⟩ = w.cell? ⟨d, i, none⟩ := fun i hi => World.cell?_setCell_other _ _ _ _ (fun e => hi (by have := congrArg Addr.off e; simpa using this.symm))
  obtain ⟨ao, n, cap, nx, h1, h2, h3, h4, h5, h6⟩ := h.hp
  refine ⟨h.ld, by simpa using h.lt, by rw [oth 0 (by omega)]; exact h.c0, World.cell?_setCell_same _ _ _ h.c3, fun i hi => by rw [World.frozen?_setCell]; exact h.fz i hi, ao, n, cap, nx, by rw [oth 1 (by omega)]; exact h1, by rw [oth 2 (by omega)]; exact h2, h3, h4, h5, ?_⟩
  rcases h6 with h6 | ⟨b, e1, e2, e3, e4⟩
  · exact Or.inl h6
  · exact Or.inr ⟨b, e1, e2, e3, e4.kept ((KeptBut.refl d w).set' _ _) (fun e => by have := h.ld; rw [← e, e2] at this; omega)⟩
theorem DAt.setT {w : World} {lab : Nat → Nat} {d k : Nat} {tv mv tv' : Value} (h : DAt w lab d tv mv k) : DAt (w.setCell ⟨d, 0, none⟩ tv') lab d tv' mv k := by
  have oth : ∀ i, i ≠ 0 → (w.setCell ⟨d, 0, none⟩ tv').cell? ⟨d, i, none⟩ = w.cell? ⟨d, i, none⟩ := fun i hi => World.cell?_setCell_other _ _ _ _ (fun e => hi (by have := congrArg Addr.off e; simpa using this.symm))
  obtain ⟨ao, n, cap, nx, h1, h2, h3, h4, h5, h6⟩ := h.hp
  refine ⟨h.ld, by simpa using h.lt, World.cell?_setCell_same _ _ _ h.c0, by rw [oth 3 (by omega)]; exact h.c3, fun i hi => by rw [World.frozen?_setCell]; exact h.fz i hi, ao, n, cap, nx, by rw [oth 1 (by omega)]; exact h1, by rw [oth 2 (by omega)]; exact h2, h3, h4, h5, ?_⟩
  rcases h6 with h6 | ⟨b, e1, e2, e3, e4⟩
  · exact Or.inl h6
  · exact Or.inr ⟨b, e1, e2, e3, e4.kept ((KeptBut.refl d w).set' _ _) (fun e => by have := h.ld; rw [← e, e2] at this; omega)⟩
/-- A cell of the desk's block is written, and the answer's. -/
theorem do_finD {w w5 w6 : World} {lab lab5 : Nat → Nat} {d k i : Nat} {tv x : Value} {O' : Option TabS} {N' : MkM} {S' : MkS} {Cd : Int → Prop} {c : Int} {v : Value}
    (hld : lab d = 1) (hdl : d < w.heap.size) (HL : ∀ j, w.heap.size ≤ j → lab j = 0) (hB : Below w.heap.size w w5) (hs : w.heap.size + 1 < w5.heap.size) (hl5 : ∀ j, j < w.heap.size + 2 → lab5 j = lab j)
    (hD : DAt (w5.setCell ⟨d, i, none⟩ x) lab5 d tv (.pointer (some ⟨N'.m, 0, none⟩)) (k + 1)) (hM5 : MkAt w5 lab5 N' S') (hcn : S'.cn ≤ k + 1) (hO : TabO w5 lab5 tv O') (hkb : KeptBut (w.heap.size + 1) (w5.setCell ⟨d, i, none⟩ x) w6) (hc : Cd c) (hv : isSl v = true := by rfl) :
    doPost lab d k Cd O' w (.returned (.agg #[.int .u8 c, v])) w6 := by
  have hz : lab5 (w.heap.size + 1) = 0 := by rw [hl5 _ (by omega)]; exact HL _ (by omega)
  have hd5 : lab5 d = 1 := by rw [hl5 _ (by omega)]; exact hld
  have s6 := hkb.size
  simp only [World.size_setCell] at s6
  have hs1 := hB.size
  have key : ∀ j, j < w5.heap.size → lab5 j ≠ 0 → lab5 j ≠ 1 → w6.heap[j]? = w5.heap[j]? := fun j hj h0 h1 => by
    rw [hkb.block j (by simpa using hj) (fun e => h0 (by rw [e]; exact hz)), Below.heap_setCell _ _ _ _ (fun e => h1 (by have e2 : j = d := e; rw [e2]; exact hd5))]
  refine doPost.make (tv := tv) (N := N') (S := S') hc (hD.of hkb.size (fun _ _ => rfl) (fun j hj hl => hkb.block j hj (fun e => by rw [e, hz] at hl; omega))) (hM5.of (by omega) (fun _ _ => rfl) (fun j hj hl => key j hj (by omega) (by omega))) hcn ?_ (fun j hj => hl5 j (by omega)) ?_ hv
  · cases O' with
    | none => exact hO
    | some T =>
      obtain ⟨M, h1, h2, h3⟩ := hO
      exact ⟨M, h1, h2.of (by omega) (fun j hj => rfl) (fun j hj ht => key j hj (by unfold tabL at ht; omega) (by unfold tabL at ht; omega)), h3⟩
  · refine ⟨?_, ?_, ?_, by omega, fun j hj hn => ?_⟩
    · rw [hkb.os]; exact hB.os
    · rw [hkb.tape]; exact hB.tape
    · rw [hkb.output]; exact hB.output
    · rw [hkb.block j (by simp; omega) (by omega), Below.heap_setCell _ _ _ _ (fun e => hn (by have e2 : j = d := e; rw [e2, hld]; unfold tagL; omega)), hB.block j hj]

theorem do_minit (A B C D : Int) (ao : Option Addr) (n cap : Nat) (lab : Nat → Nat) (d k : Nat) (O : Option TabS) (w : World) (h : Desk w lab d k O) (hk9 : k ≤ 900000) : Calls Tryz.prog 6 #[.pointer (some ⟨d, 0, none⟩), .agg #[.int .i64 (19), .int .i64 (A), .int .i64 (B), .int .i64 (C), .int .i64 (D), .slice ao n cap]] w (doPost lab d k (fun _ => True) O w) := by
  obtain ⟨⟨tv, N, S, hd, hm, hcn, ht⟩, hl⟩ := h
  have HD := hid hd
  have HM := hid hm
  have HCN := hid hcn
  have HO := hid ht
  have HL := hid hl
  have ld := hd.lt
  have lF := hl (w.heap.size + 1) (by omega)
  clear hd hm hcn ht hl
  have d1 := HD.out.fz 3 (by omega)
  have c3 := HD.out.c3
  by_cases h0 : A < 0
  · go_enter Tryz.func6, Tryz.ntmps6
    go_wp2
    refine bodyPost_ret (v := .agg #[.int .u8 2, .slice none 0 0]) (by simp [results, Tryz.results6, go_sem, ↓IntWalk.iteOmega, *]) rfl ?_
    exact do_finM (w1 := World.alloc _ _) (w5 := World.alloc _ _) (HD.out.more (Nat.le_succ k)) HO.out HL.out (by (repeat (first | with_reducible exact Below.rf _ | with_reducible exact World.below_ext _ _ | with_reducible refine Below.ex ?_ _ | with_reducible refine Below.al ?_ _ | with_reducible refine Below.setCell ?_ (by simp) _ | with_reducible refine Below.drew ?_))) (by simp <;> omega) (KeptL.refl lab _ _) (HM.out.below (by (repeat (first | with_reducible exact Below.rf _ | with_reducible exact World.below_ext _ _ | with_reducible refine Below.ex ?_ _ | with_reducible refine Below.al ?_ _ | with_reducible refine Below.setCell ?_ (by simp) _ | with_reducible refine Below.drew ?_)))) (Nat.le_succ_of_le HCN.out) (KeptBut.refl _ _)
  by_cases h1 : 4096 < A
  · go_enter Tryz.func6, Tryz.ntmps6
    go_wp2
    refine bodyPost_ret (v := .agg #[.int .u8 2, .slice none 0 0]) (by simp [results, Tryz.results6, go_sem, ↓IntWalk.iteOmega, *]) rfl ?_
    exact do_finM (w1 := World.alloc _ _) (w5 := World.alloc _ _) (HD.out.more (Nat.le_succ k)) HO.out HL.out (by (repeat (first | with_reducible exact Below.rf _ | with_reducible exact World.below_ext _ _ | with_reducible refine Below.ex ?_ _ | with_reducible refine Below.al ?_ _ | with_reducible refine Below.setCell ?_ (by simp) _ | with_reducible refine Below.drew ?_))) (by simp <;> omega) (KeptL.refl lab _ _) (HM.out.below (by (repeat (first | with_reducible exact Below.rf _ | with_reducible exact World.below_ext _ _ | with_reducible refine Below.ex ?_ _ | with_reducible refine Below.al ?_ _ | with_reducible refine Below.setCell ?_ (by simp) _ | with_reducible refine Below.drew ?_)))) (Nat.le_succ_of_le HCN.out) (KeptBut.refl _ _)
  obtain ⟨m, rfl⟩ := Int.eq_ofNat_of_zero_le (show 0 ≤ A by omega)
  have hm : m ≤ 4096 := by omega
  go_enter Tryz.func6, Tryz.ntmps6
  go_wp2_with (go_at_call 12; refine hold ?_)
  unfold Hid
  refine (newMarks_any m hm lab _).mono ?_
  rintro e w5 ⟨N', lab5, rfl, hM5, hl5, hB5⟩
  have e1 := hB5.block d (by simp; omega)
  have g1 : w5.cell? ⟨d, 3, none⟩ = some (.pointer (some ⟨N.m, 0, none⟩)) := by rw [World.cell?_of_block e1]; simp [go_sem, ↓IntWalk.iteOmega, c3]
  have g2 : w5.frozen? ⟨d, 3, none⟩ = false := by rw [World.frozen?_of_block e1]; simp [go_sem, ↓IntWalk.iteOmega, d1]
  have e2 := hB5.block (w.heap.size + 1) (by simp)
  have f0 : w5.cell? ⟨w.heap.size + 1, 0, none⟩ = some (.int .u8 0) := by rw [World.cell?_of_block e2]; simp [go_sem, ↓IntWalk.iteOmega]
  have f1 : w5.cell? ⟨w.heap.size + 1, 1, none⟩ = some (.slice none 0 0) := by rw [World.cell?_of_block e2]; simp [go_sem, ↓IntWalk.iteOmega]
  have f2 : w5.frozen? ⟨w.heap.size + 1, 0, none⟩ = false := by rw [World.frozen?_of_block e2]; simp [go_sem, ↓IntWalk.iteOmega]
  have f3 : w5.frozen? ⟨w.heap.size + 1, 1, none⟩ = false := by rw [World.frozen?_of_block e2]; simp [go_sem, ↓IntWalk.iteOmega]
  have s5 := hB5.size
  simp at s5
  have HM5 := hid hM5
  have HL5 := hid hl5
  have HB5 := hid hB5
  clear hM5 hl5 hB5 e1 e2 c3 d1
  go_wp2_with (go_at_call 15; refine (ok_any _ ⟨_, _, _, rfl⟩ _).mono ?_; rintro e w' ⟨rfl, z2, rfl⟩)
  refine bodyPost_ret (v := .agg #[.int .u8 0, .slice none 0 0]) (by simp [results, Tryz.results6, go_sem, ↓IntWalk.iteOmega, *]) rfl ?_
  have hBx : Below w.heap.size w w5 := Below.trans (by (repeat (first | with_reducible exact Below.rf _ | with_reducible exact World.below_ext _ _ | with_reducible refine Below.ex ?_ _ | with_reducible refine Below.al ?_ _ | with_reducible refine Below.setCell ?_ (by simp) _ | with_reducible refine Below.drew ?_))) (HB5.out.mono (by simp; omega))
  have hlx : ∀ j, j < w.heap.size + 2 → lab5 j = lab j := fun j hj => HL5.out j (by simp; omega)
  exact do_finD HD.out.ld ld HL.out hBx (by omega) hlx (((HD.out.more (Nat.le_succ k)).of hBx.size (fun j hj => hlx j (by omega)) (fun j hj _ => hBx.block j hj)).setM) HM5.out (by simp [MkS.new]) (HO.out.of hBx.size (fun j hj => hlx j (by omega)) (fun j hj _ => hBx.block j hj)) (by (repeat (first | with_reducible exact KeptBut.refl _ _ | with_reducible refine KeptBut.ex ?_ _ | with_reducible refine KeptBut.al ?_ _ | with_reducible refine KeptBut.set' ?_ _ _))) trivial
end Go.Proofs.Qxb6500717aGreat
