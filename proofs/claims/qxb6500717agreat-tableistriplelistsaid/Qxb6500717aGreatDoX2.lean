/-
  'do', exactly: the questions to the table.
-/
import Derived.Test.Qxb6500717aGreatDoX0
namespace Go.Proofs.Qxb6500717aGreat
open Go.RowKit
set_option linter.unusedSimpArgs false
set_option linter.unusedVariables false
set_option maxRecDepth 20000
set_option maxHeartbeats 4000000

theorem dx_hold (A B C D : Int) (ao : Option Addr) (n cap : Nat) (lab : Nat → Nat) (d k : Nat) (Q : DkS) (T : TabS) (hO : Q.O = some T) (w : World) (h : DeskX w lab d k Q) : Calls Tryz.prog 6 #[.pointer (some ⟨d, 0, none⟩), .agg #[.int .i64 (7), .int .i64 (A), .int .i64 (B), .int .i64 (C), .int .i64 (D), .slice ao n cap]] w (doXPost lab d k (((0, [T.holdQ B C]), Q)) w) := by
  obtain ⟨⟨tv, N, hd, hm, ht⟩, hl, hp, hbk⟩ := h
  rw [hO] at ht
  obtain ⟨M, rfl, hT, hC⟩ := ht
  have HD := hid hd
  have HM := hid hm
  have HT := hid hT
  have HC := hid hC
  have HL := hid hl
  have HP := hid hp
  have HBK := hid hbk
  have HQ := hid hO
  have c0 := hd.c0
  have ld := hd.lt
  have lF := hl (w.heap.size + 1) (by omega)
  clear hd hm hT hC hl hp hbk hO
  go_enter Tryz.func6, Tryz.ntmps6
  go_wp2_with (first | (go_at_call 33; refine (holdQ_any M T lab B C _ (HT.out.below (by (repeat (first | with_reducible exact Below.rf _ | with_reducible exact World.below_ext _ _ | with_reducible refine Below.ex ?_ _ | with_reducible refine Below.al ?_ _ | with_reducible refine Below.setCell ?_ (by simp) _ | with_reducible refine Below.drew ?_))))).mono ?_; rintro e w' ⟨rfl, z1, rfl⟩) | (go_at_call 15; refine (ok_any _ ⟨_, _, _, rfl⟩ _).mono ?_; rintro e w' ⟨rfl, z9, rfl⟩))
  refine bodyPost_ret (v := .agg #[.int .u8 0, .slice (some ⟨w.heap.size + 1 + 1 + z1.heap.size, 0, none⟩) 1 1]) (by simp [results, Tryz.results6, go_sem, ↓IntWalk.iteOmega, *]) rfl ?_
  exact doX_fin (D' := Q) HL.out (by (repeat (first | with_reducible exact Below.rf _ | with_reducible exact World.below_ext _ _ | with_reducible refine Below.ex ?_ _ | with_reducible refine Below.al ?_ _ | with_reducible refine Below.setCell ?_ (by simp) _ | with_reducible refine Below.drew ?_))) (by simp <;> omega) (KeptL.refl lab tabL _) (fun x hx => by unfold tabL at hx; unfold tagL; omega) (fun _ _ => rfl) (HD.out.below (by (repeat (first | with_reducible exact Below.rf _ | with_reducible exact World.below_ext _ _ | with_reducible refine Below.ex ?_ _ | with_reducible refine Below.al ?_ _ | with_reducible refine Below.setCell ?_ (by simp) _ | with_reducible refine Below.drew ?_)))) (HM.out.below (by (repeat (first | with_reducible exact Below.rf _ | with_reducible exact World.below_ext _ _ | with_reducible refine Below.ex ?_ _ | with_reducible refine Below.al ?_ _ | with_reducible refine Below.setCell ?_ (by simp) _ | with_reducible refine Below.drew ?_)))) (by rw [HQ.out]; exact ⟨M, rfl, HT.out.below (by (repeat (first | with_reducible exact Below.rf _ | with_reducible exact World.below_ext _ _ | with_reducible refine Below.ex ?_ _ | with_reducible refine Below.al ?_ _ | with_reducible refine Below.setCell ?_ (by simp) _ | with_reducible refine Below.drew ?_))), HC.out⟩) (KeptBut.refl _ _) HP.out ⟨Nat.le_succ_of_le HBK.out.1, Nat.le_succ_of_le HBK.out.2.1, Nat.le_succ_of_le HBK.out.2.2⟩ (IntsAt.one (by first | omega | (simp <;> omega)) (by simp <;> omega) (by simp [go_sem, ↓IntWalk.iteOmega]))
theorem dx_at (A B C D : Int) (ao : Option Addr) (n cap : Nat) (lab : Nat → Nat) (d k : Nat) (Q : DkS) (T : TabS) (hO : Q.O = some T) (w : World) (h : DeskX w lab d k Q) : Calls Tryz.prog 6 #[.pointer (some ⟨d, 0, none⟩), .agg #[.int .i64 (8), .int .i64 (A), .int .i64 (B), .int .i64 (C), .int .i64 (D), .slice ao n cap]] w (doXPost lab d k (((0, [T.atQ A C]), Q)) w) := by
  obtain ⟨⟨tv, N, hd, hm, ht⟩, hl, hp, hbk⟩ := h
  rw [hO] at ht
  obtain ⟨M, rfl, hT, hC⟩ := ht
  have HD := hid hd
  have HM := hid hm
  have HT := hid hT
  have HC := hid hC
  have HL := hid hl
  have HP := hid hp
  have HBK := hid hbk
  have HQ := hid hO
  have c0 := hd.c0
  have ld := hd.lt
  have lF := hl (w.heap.size + 1) (by omega)
  clear hd hm hT hC hl hp hbk hO
  go_enter Tryz.func6, Tryz.ntmps6
  go_wp2_with (first | (go_at_call 34; refine (atQ_any M T lab A C _ (HT.out.below (by (repeat (first | with_reducible exact Below.rf _ | with_reducible exact World.below_ext _ _ | with_reducible refine Below.ex ?_ _ | with_reducible refine Below.al ?_ _ | with_reducible refine Below.setCell ?_ (by simp) _ | with_reducible refine Below.drew ?_))))).mono ?_; rintro e w' ⟨rfl, z1, rfl⟩) | (go_at_call 15; refine (ok_any _ ⟨_, _, _, rfl⟩ _).mono ?_; rintro e w' ⟨rfl, z9, rfl⟩))
  refine bodyPost_ret (v := .agg #[.int .u8 0, .slice (some ⟨w.heap.size + 1 + 1 + z1.heap.size, 0, none⟩) 1 1]) (by simp [results, Tryz.results6, go_sem, ↓IntWalk.iteOmega, *]) rfl ?_
  exact doX_fin (D' := Q) HL.out (by (repeat (first | with_reducible exact Below.rf _ | with_reducible exact World.below_ext _ _ | with_reducible refine Below.ex ?_ _ | with_reducible refine Below.al ?_ _ | with_reducible refine Below.setCell ?_ (by simp) _ | with_reducible refine Below.drew ?_))) (by simp <;> omega) (KeptL.refl lab tabL _) (fun x hx => by unfold tabL at hx; unfold tagL; omega) (fun _ _ => rfl) (HD.out.below (by (repeat (first | with_reducible exact Below.rf _ | with_reducible exact World.below_ext _ _ | with_reducible refine Below.ex ?_ _ | with_reducible refine Below.al ?_ _ | with_reducible refine Below.setCell ?_ (by simp) _ | with_reducible refine Below.drew ?_)))) (HM.out.below (by (repeat (first | with_reducible exact Below.rf _ | with_reducible exact World.below_ext _ _ | with_reducible refine Below.ex ?_ _ | with_reducible refine Below.al ?_ _ | with_reducible refine Below.setCell ?_ (by simp) _ | with_reducible refine Below.drew ?_)))) (by rw [HQ.out]; exact ⟨M, rfl, HT.out.below (by (repeat (first | with_reducible exact Below.rf _ | with_reducible exact World.below_ext _ _ | with_reducible refine Below.ex ?_ _ | with_reducible refine Below.al ?_ _ | with_reducible refine Below.setCell ?_ (by simp) _ | with_reducible refine Below.drew ?_))), HC.out⟩) (KeptBut.refl _ _) HP.out ⟨Nat.le_succ_of_le HBK.out.1, Nat.le_succ_of_le HBK.out.2.1, Nat.le_succ_of_le HBK.out.2.2⟩ (IntsAt.one (by first | omega | (simp <;> omega)) (by simp <;> omega) (by simp [go_sem, ↓IntWalk.iteOmega]))
/-- The answer was made by a small function. -/
theorem doX_ans {w W w5 w6 : World} {lab : Nat → Nat} {d k : Nat} {Q : DkS} {c : Int} {vals : List Int} {v : Value} (h : DeskX w lab d k Q) (hB : Below w.heap.size w W) (hs : w.heap.size + 1 < W.heap.size) (hB5 : Below W.heap.size W w5) (hI : IntsAt w5 W.heap.size v vals) (hkb : KeptBut (w.heap.size + 1) w5 w6) :
    doXPost lab d k ((c, vals), Q) w (.returned (.agg #[.int .u8 c, v])) w6 := by
  obtain ⟨⟨tv, N, hd, hm, ht⟩, hl, hp, hbk⟩ := h
  have s1 := hB.size
  have s5 := hB5.size
  have hB2 : Below w.heap.size w w5 := hB.trans (hB5.mono s1)
  exact doX_fin hl hB2 (by omega) (KeptL.refl lab tabL _) (fun x hx => by unfold tabL at hx; unfold tagL; omega) (fun _ _ => rfl) (hd.below hB2) (hm.below hB2) (ht.of hB2.size (fun _ _ => rfl) (fun j hj _ => hB2.block j hj)) hkb hp ⟨Nat.le_succ_of_le hbk.1, Nat.le_succ_of_le hbk.2.1, Nat.le_succ_of_le hbk.2.2⟩ (hI.of hkb.size (fun j hj hl => hkb.block j hl (by omega)) (by omega))
theorem dx_freeC (A B C D : Int) (ao : Option Addr) (n cap : Nat) (lab : Nat → Nat) (d k : Nat) (Q : DkS) (T : TabS) (hO : Q.O = some T) (w : World) (h : DeskX w lab d k Q) : Calls Tryz.prog 6 #[.pointer (some ⟨d, 0, none⟩), .agg #[.int .i64 (9), .int .i64 (A), .int .i64 (B), .int .i64 (C), .int .i64 (D), .slice ao n cap]] w (doXPost lab d k (((0, [flg (T.freeC A B C)]), Q)) w) := by
  have HDK := hid h
  obtain ⟨⟨tv, N, hd, hm, ht⟩, hl, hp, hbk⟩ := h
  rw [hO] at ht
  obtain ⟨M, rfl, hT, hC⟩ := ht
  have HD := hid hd
  have HM := hid hm
  have HT := hid hT
  have HC := hid hC
  have HL := hid hl
  have HP := hid hp
  have HBK := hid hbk
  have HQ := hid hO
  have c0 := hd.c0
  have ld := hd.lt
  have lF := hl (w.heap.size + 1) (by omega)
  clear hd hm hT hC hl hp hbk hO
  obtain ⟨res, hres⟩ : ∃ x, T.freeC A B C = x := ⟨_, rfl⟩
  have FC := hid (fun w1 (hB : Below w.heap.size w w1) => freeC_any M T lab A B C w1 (HT.out.below hB))
  simp only [hres] at FC ⊢
  clear hres
  go_enter Tryz.func6, Tryz.ntmps6
  go_wp2_with (first | (go_at_call 36; refine (FC.out _ (by (repeat (first | with_reducible exact Below.rf _ | with_reducible exact World.below_ext _ _ | with_reducible refine Below.ex ?_ _ | with_reducible refine Below.al ?_ _ | with_reducible refine Below.setCell ?_ (by simp) _ | with_reducible refine Below.drew ?_)))).mono ?_; rintro e w' ⟨rfl, z1, rfl⟩) | (go_at_call 35; refine hold ?_))
  unfold Hid
  refine (flagX _ _).mono ?_
  rintro e w5 ⟨⟨v, rfl, hI⟩, hB5⟩
  have hF := hB5.cell (p := ⟨w.heap.size + 1, 0, none⟩) (by simp <;> omega)
  have hF1 := hB5.cell (p := ⟨w.heap.size + 1, 1, none⟩) (by simp <;> omega)
  have hF2 := hB5.frozen (p := ⟨w.heap.size + 1, 0, none⟩) (by simp <;> omega)
  have hF3 := hB5.frozen (p := ⟨w.heap.size + 1, 1, none⟩) (by simp <;> omega)
  simp [go_sem, ↓IntWalk.iteOmega] at hF hF1 hF2 hF3
  have s9 := hB5.size
  simp at s9
  have HI := hid hI
  have HB5 := hid hB5
  obtain ⟨ao5, cap5, rfl, -⟩ := hI
  clear hB5 c0
  go_wp2
  refine bodyPost_ret (v := .agg #[.int .u8 0, .slice ao5 1 cap5]) (by simp [results, Tryz.results6, go_sem, ↓IntWalk.iteOmega, *]) rfl ?_
  exact doX_ans HDK.out (by (repeat (first | with_reducible exact Below.rf _ | with_reducible exact World.below_ext _ _ | with_reducible refine Below.ex ?_ _ | with_reducible refine Below.al ?_ _ | with_reducible refine Below.setCell ?_ (by simp) _ | with_reducible refine Below.drew ?_))) (by simp <;> omega) HB5.out HI.out (by (repeat (first | with_reducible exact KeptBut.refl _ _ | with_reducible refine KeptBut.ex ?_ _ | with_reducible refine KeptBut.al ?_ _ | with_reducible refine KeptBut.set' ?_ _ _)))
theorem dx_freeM (A B C D : Int) (ao : Option Addr) (n cap : Nat) (lab : Nat → Nat) (d k : Nat) (Q : DkS) (T : TabS) (hO : Q.O = some T) (w : World) (h : DeskX w lab d k Q) : Calls Tryz.prog 6 #[.pointer (some ⟨d, 0, none⟩), .agg #[.int .i64 (10), .int .i64 (A), .int .i64 (B), .int .i64 (C), .int .i64 (D), .slice ao n cap]] w (doXPost lab d k (((0, [flg (T.freeM A B D C)]), Q)) w) := by
  have HDK := hid h
  obtain ⟨⟨tv, N, hd, hm, ht⟩, hl, hp, hbk⟩ := h
  rw [hO] at ht
  obtain ⟨M, rfl, hT, hC⟩ := ht
  have HD := hid hd
  have HM := hid hm
  have HT := hid hT
  have HC := hid hC
  have HL := hid hl
  have HP := hid hp
  have HBK := hid hbk
  have HQ := hid hO
  have c0 := hd.c0
  have ld := hd.lt
  have lF := hl (w.heap.size + 1) (by omega)
  clear hd hm hT hC hl hp hbk hO
  obtain ⟨res, hres⟩ : ∃ x, T.freeM A B D C = x := ⟨_, rfl⟩
  have FC := hid (fun w1 (hB : Below w.heap.size w w1) => freeM_any M T lab A B D C w1 (HT.out.below hB))
  simp only [hres] at FC ⊢
  clear hres
  go_enter Tryz.func6, Tryz.ntmps6
  go_wp2_with (first | (go_at_call 37; refine (FC.out _ (by (repeat (first | with_reducible exact Below.rf _ | with_reducible exact World.below_ext _ _ | with_reducible refine Below.ex ?_ _ | with_reducible refine Below.al ?_ _ | with_reducible refine Below.setCell ?_ (by simp) _ | with_reducible refine Below.drew ?_)))).mono ?_; rintro e w' ⟨rfl, z1, rfl⟩) | (go_at_call 35; refine hold ?_))
  unfold Hid
  refine (flagX _ _).mono ?_
  rintro e w5 ⟨⟨v, rfl, hI⟩, hB5⟩
  have hF := hB5.cell (p := ⟨w.heap.size + 1, 0, none⟩) (by simp <;> omega)
  have hF1 := hB5.cell (p := ⟨w.heap.size + 1, 1, none⟩) (by simp <;> omega)
  have hF2 := hB5.frozen (p := ⟨w.heap.size + 1, 0, none⟩) (by simp <;> omega)
  have hF3 := hB5.frozen (p := ⟨w.heap.size + 1, 1, none⟩) (by simp <;> omega)
  simp [go_sem, ↓IntWalk.iteOmega] at hF hF1 hF2 hF3
  have s9 := hB5.size
  simp at s9
  have HI := hid hI
  have HB5 := hid hB5
  obtain ⟨ao5, cap5, rfl, -⟩ := hI
  clear hB5 c0
  go_wp2
  refine bodyPost_ret (v := .agg #[.int .u8 0, .slice ao5 1 cap5]) (by simp [results, Tryz.results6, go_sem, ↓IntWalk.iteOmega, *]) rfl ?_
  exact doX_ans HDK.out (by (repeat (first | with_reducible exact Below.rf _ | with_reducible exact World.below_ext _ _ | with_reducible refine Below.ex ?_ _ | with_reducible refine Below.al ?_ _ | with_reducible refine Below.setCell ?_ (by simp) _ | with_reducible refine Below.drew ?_))) (by simp <;> omega) HB5.out HI.out (by (repeat (first | with_reducible exact KeptBut.refl _ _ | with_reducible refine KeptBut.ex ?_ _ | with_reducible refine KeptBut.al ?_ _ | with_reducible refine KeptBut.set' ?_ _ _)))
theorem dx_freeF (A B C D : Int) (ao : Option Addr) (n cap : Nat) (lab : Nat → Nat) (d k : Nat) (Q : DkS) (T : TabS) (hO : Q.O = some T) (w : World) (h : DeskX w lab d k Q) : Calls Tryz.prog 6 #[.pointer (some ⟨d, 0, none⟩), .agg #[.int .i64 (11), .int .i64 (A), .int .i64 (B), .int .i64 (C), .int .i64 (D), .slice ao n cap]] w (doXPost lab d k (((0, [flg (T.freeF A B C)]), Q)) w) := by
  have HDK := hid h
  obtain ⟨⟨tv, N, hd, hm, ht⟩, hl, hp, hbk⟩ := h
  rw [hO] at ht
  obtain ⟨M, rfl, hT, hC⟩ := ht
  have HD := hid hd
  have HM := hid hm
  have HT := hid hT
  have HC := hid hC
  have HL := hid hl
  have HP := hid hp
  have HBK := hid hbk
  have HQ := hid hO
  have c0 := hd.c0
  have ld := hd.lt
  have lF := hl (w.heap.size + 1) (by omega)
  clear hd hm hT hC hl hp hbk hO
  obtain ⟨res, hres⟩ : ∃ x, T.freeF A B C = x := ⟨_, rfl⟩
  have FC := hid (fun w1 (hB : Below w.heap.size w w1) => freeF_any M T lab A B C w1 (HT.out.below hB))
  simp only [hres] at FC ⊢
  clear hres
  go_enter Tryz.func6, Tryz.ntmps6
  go_wp2_with (first | (go_at_call 38; refine (FC.out _ (by (repeat (first | with_reducible exact Below.rf _ | with_reducible exact World.below_ext _ _ | with_reducible refine Below.ex ?_ _ | with_reducible refine Below.al ?_ _ | with_reducible refine Below.setCell ?_ (by simp) _ | with_reducible refine Below.drew ?_)))).mono ?_; rintro e w' ⟨rfl, z1, rfl⟩) | (go_at_call 35; refine hold ?_))
  unfold Hid
  refine (flagX _ _).mono ?_
  rintro e w5 ⟨⟨v, rfl, hI⟩, hB5⟩
  have hF := hB5.cell (p := ⟨w.heap.size + 1, 0, none⟩) (by simp <;> omega)
  have hF1 := hB5.cell (p := ⟨w.heap.size + 1, 1, none⟩) (by simp <;> omega)
  have hF2 := hB5.frozen (p := ⟨w.heap.size + 1, 0, none⟩) (by simp <;> omega)
  have hF3 := hB5.frozen (p := ⟨w.heap.size + 1, 1, none⟩) (by simp <;> omega)
  simp [go_sem, ↓IntWalk.iteOmega] at hF hF1 hF2 hF3
  have s9 := hB5.size
  simp at s9
  have HI := hid hI
  have HB5 := hid hB5
  obtain ⟨ao5, cap5, rfl, -⟩ := hI
  clear hB5 c0
  go_wp2
  refine bodyPost_ret (v := .agg #[.int .u8 0, .slice ao5 1 cap5]) (by simp [results, Tryz.results6, go_sem, ↓IntWalk.iteOmega, *]) rfl ?_
  exact doX_ans HDK.out (by (repeat (first | with_reducible exact Below.rf _ | with_reducible exact World.below_ext _ _ | with_reducible refine Below.ex ?_ _ | with_reducible refine Below.al ?_ _ | with_reducible refine Below.setCell ?_ (by simp) _ | with_reducible refine Below.drew ?_))) (by simp <;> omega) HB5.out HI.out (by (repeat (first | with_reducible exact KeptBut.refl _ _ | with_reducible refine KeptBut.ex ?_ _ | with_reducible refine KeptBut.al ?_ _ | with_reducible refine KeptBut.set' ?_ _ _)))
theorem dx_held (A B C D : Int) (ao : Option Addr) (n cap : Nat) (lab : Nat → Nat) (d k : Nat) (Q : DkS) (T : TabS) (hO : Q.O = some T) (w : World) (h : DeskX w lab d k Q) : Calls Tryz.prog 6 #[.pointer (some ⟨d, 0, none⟩), .agg #[.int .i64 (12), .int .i64 (A), .int .i64 (B), .int .i64 (C), .int .i64 (D), .slice ao n cap]] w (doXPost lab d k (((0, [(T.held : Int), (T.cap : Int), (T.base : Int)]), Q)) w) := by
  obtain ⟨⟨tv, N, hd, hm, ht⟩, hl, hp, hbk⟩ := h
  rw [hO] at ht
  obtain ⟨M, rfl, hT, hC⟩ := ht
  have HD := hid hd
  have HM := hid hm
  have HT := hid hT
  have HC := hid hC
  have HL := hid hl
  have HP := hid hp
  have HBK := hid hbk
  have HQ := hid hO
  have c0 := hd.c0
  have ld := hd.lt
  have lF := hl (w.heap.size + 1) (by omega)
  clear hd hm hT hC hl hp hbk hO
  go_enter Tryz.func6, Tryz.ntmps6
  go_wp2_with (first | (go_at_call 39; refine (held_any M T lab _ (HT.out.below (by (repeat (first | with_reducible exact Below.rf _ | with_reducible exact World.below_ext _ _ | with_reducible refine Below.ex ?_ _ | with_reducible refine Below.al ?_ _ | with_reducible refine Below.setCell ?_ (by simp) _ | with_reducible refine Below.drew ?_))))).mono ?_; rintro e w' ⟨rfl, rfl⟩) | (go_at_call 40; refine (capacity_any M T lab _ (HT.out.below (by (repeat (first | with_reducible exact Below.rf _ | with_reducible exact World.below_ext _ _ | with_reducible refine Below.ex ?_ _ | with_reducible refine Below.al ?_ _ | with_reducible refine Below.setCell ?_ (by simp) _ | with_reducible refine Below.drew ?_))))).mono ?_; rintro e w' ⟨rfl, rfl⟩) | (go_at_call 41; refine (base_any M T lab _ (HT.out.below (by (repeat (first | with_reducible exact Below.rf _ | with_reducible exact World.below_ext _ _ | with_reducible refine Below.ex ?_ _ | with_reducible refine Below.al ?_ _ | with_reducible refine Below.setCell ?_ (by simp) _ | with_reducible refine Below.drew ?_))))).mono ?_; rintro e w' ⟨rfl, rfl⟩) | (go_at_call 15; refine (ok_any _ ⟨_, _, _, rfl⟩ _).mono ?_; rintro e w' ⟨rfl, z9, rfl⟩))
  refine bodyPost_ret (v := .agg #[.int .u8 0, .slice (some ⟨w.heap.size + 1 + 1, 0, none⟩) 3 3]) (by simp [results, Tryz.results6, go_sem, ↓IntWalk.iteOmega, *]) rfl ?_
  exact doX_fin (D' := Q) HL.out (by (repeat (first | with_reducible exact Below.rf _ | with_reducible exact World.below_ext _ _ | with_reducible refine Below.ex ?_ _ | with_reducible refine Below.al ?_ _ | with_reducible refine Below.setCell ?_ (by simp) _ | with_reducible refine Below.drew ?_))) (by simp <;> omega) (KeptL.refl lab tabL _) (fun x hx => by unfold tabL at hx; unfold tagL; omega) (fun _ _ => rfl) (HD.out.below (by (repeat (first | with_reducible exact Below.rf _ | with_reducible exact World.below_ext _ _ | with_reducible refine Below.ex ?_ _ | with_reducible refine Below.al ?_ _ | with_reducible refine Below.setCell ?_ (by simp) _ | with_reducible refine Below.drew ?_)))) (HM.out.below (by (repeat (first | with_reducible exact Below.rf _ | with_reducible exact World.below_ext _ _ | with_reducible refine Below.ex ?_ _ | with_reducible refine Below.al ?_ _ | with_reducible refine Below.setCell ?_ (by simp) _ | with_reducible refine Below.drew ?_)))) (by rw [HQ.out]; exact ⟨M, rfl, HT.out.below (by (repeat (first | with_reducible exact Below.rf _ | with_reducible exact World.below_ext _ _ | with_reducible refine Below.ex ?_ _ | with_reducible refine Below.al ?_ _ | with_reducible refine Below.setCell ?_ (by simp) _ | with_reducible refine Below.drew ?_))), HC.out⟩) (KeptBut.refl _ _) HP.out ⟨Nat.le_succ_of_le HBK.out.1, Nat.le_succ_of_le HBK.out.2.1, Nat.le_succ_of_le HBK.out.2.2⟩ (IntsAt.three (by omega) (by simp <;> omega) (by simp [go_sem, ↓IntWalk.iteOmega]) (by simp [go_sem, ↓IntWalk.iteOmega]) (by simp [go_sem, ↓IntWalk.iteOmega]))
def TabS.removQ (T : TabS) (r t : Int) : Nat := if 0 ≤ r ∧ r < T.nr then T.remov r.toNat (max t (T.base : Int)).toNat else 0
theorem remov_ex (M : TabM) (T : TabS) (lab : Nat → Nat) (r t : Int) (w : World) (h : TAt w lab M T) (ht : t ≤ 9223372036854775807) : Calls Tryz.prog 42 #[.pointer (some ⟨M.t, 0, none⟩), .int .i64 (r), .int .i64 (t)] w fun e w' => e = .returned (.int .i64 (T.removQ r t)) ∧ ∃ z, w' = w.ext z := by
  by_cases hr : 0 ≤ r ∧ r < T.nr
  · obtain ⟨rn, rfl⟩ := Int.eq_ofNat_of_zero_le hr.1
    obtain ⟨tn, htn⟩ : ∃ tn : Nat, (tn : Int) = max t (T.base : Int) := ⟨(max t (T.base : Int)).toNat, by omega⟩
    refine (remov_any M T lab rn tn t w h (by omega) htn ht).mono ?_
    rintro e w' ⟨rfl, hB⟩
    unfold TabS.removQ
    rw [if_pos hr, ← htn]
    exact ⟨rfl, hB.is_ext⟩
  · refine (remov_no M T lab r t w h hr).mono ?_
    rintro e w' ⟨rfl, rfl⟩
    unfold TabS.removQ
    rw [if_neg hr]
    exact ⟨rfl, (Below.rf _).is_ext⟩
theorem dx_remov (A B C D : Int) (ao : Option Addr) (n cap : Nat) (lab : Nat → Nat) (d k : Nat) (Q : DkS) (T : TabS) (hO : Q.O = some T) (w : World) (h : DeskX w lab d k Q) (hCm : C ≤ 9223372036854775807) : Calls Tryz.prog 6 #[.pointer (some ⟨d, 0, none⟩), .agg #[.int .i64 (13), .int .i64 (A), .int .i64 (B), .int .i64 (C), .int .i64 (D), .slice ao n cap]] w (doXPost lab d k ((0, [(T.removQ A C : Int)]), Q) w) := by
  have HX := hid hCm
  clear hCm
  obtain ⟨⟨tv, N, hd, hm, ht⟩, hl, hp, hbk⟩ := h
  rw [hO] at ht
  obtain ⟨M, rfl, hT, hC⟩ := ht
  have HD := hid hd
  have HM := hid hm
  have HT := hid hT
  have HC := hid hC
  have HL := hid hl
  have HP := hid hp
  have HBK := hid hbk
  have HQ := hid hO
  have c0 := hd.c0
  have ld := hd.lt
  have lF := hl (w.heap.size + 1) (by omega)
  clear hd hm hT hC hl hp hbk hO
  go_enter Tryz.func6, Tryz.ntmps6
  go_wp2_with (first | (go_at_call 42; refine (remov_ex M T lab A C _ (HT.out.below (by (repeat (first | with_reducible exact Below.rf _ | with_reducible exact World.below_ext _ _ | with_reducible refine Below.ex ?_ _ | with_reducible refine Below.al ?_ _ | with_reducible refine Below.setCell ?_ (by simp) _ | with_reducible refine Below.drew ?_)))) HX.out).mono ?_; rintro e w' ⟨rfl, z1, rfl⟩) | (go_at_call 15; refine (ok_any _ ⟨_, _, _, rfl⟩ _).mono ?_; rintro e w' ⟨rfl, z9, rfl⟩))
  refine bodyPost_ret (v := .agg #[.int .u8 0, .slice (some ⟨w.heap.size + 1 + 1 + z1.heap.size, 0, none⟩) 1 1]) (by simp [results, Tryz.results6, go_sem, ↓IntWalk.iteOmega, *]) rfl ?_
  exact doX_fin (D' := Q) HL.out (by (repeat (first | with_reducible exact Below.rf _ | with_reducible exact World.below_ext _ _ | with_reducible refine Below.ex ?_ _ | with_reducible refine Below.al ?_ _ | with_reducible refine Below.setCell ?_ (by simp) _ | with_reducible refine Below.drew ?_))) (by simp <;> omega) (KeptL.refl lab tabL _) (fun x hx => by unfold tabL at hx; unfold tagL; omega) (fun _ _ => rfl) (HD.out.below (by (repeat (first | with_reducible exact Below.rf _ | with_reducible exact World.below_ext _ _ | with_reducible refine Below.ex ?_ _ | with_reducible refine Below.al ?_ _ | with_reducible refine Below.setCell ?_ (by simp) _ | with_reducible refine Below.drew ?_)))) (HM.out.below (by (repeat (first | with_reducible exact Below.rf _ | with_reducible exact World.below_ext _ _ | with_reducible refine Below.ex ?_ _ | with_reducible refine Below.al ?_ _ | with_reducible refine Below.setCell ?_ (by simp) _ | with_reducible refine Below.drew ?_)))) (by rw [HQ.out]; exact ⟨M, rfl, HT.out.below (by (repeat (first | with_reducible exact Below.rf _ | with_reducible exact World.below_ext _ _ | with_reducible refine Below.ex ?_ _ | with_reducible refine Below.al ?_ _ | with_reducible refine Below.setCell ?_ (by simp) _ | with_reducible refine Below.drew ?_))), HC.out⟩) (KeptBut.refl _ _) HP.out ⟨Nat.le_succ_of_le HBK.out.1, Nat.le_succ_of_le HBK.out.2.1, Nat.le_succ_of_le HBK.out.2.2⟩ (IntsAt.one (by first | omega | (simp <;> omega)) (by simp <;> omega) (by simp [go_sem, ↓IntWalk.iteOmega]))
end Go.Proofs.Qxb6500717aGreat
