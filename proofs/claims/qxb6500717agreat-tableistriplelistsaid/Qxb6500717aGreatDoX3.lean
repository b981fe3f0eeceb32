/-
  'do', exactly: truncate, release; no such step; no table; a new table.
-/
import Derived.Test.Qxb6500717aGreatDoX2
namespace Go.Proofs.Qxb6500717aGreat
open Go.RowKit
set_option linter.unusedSimpArgs false
set_option linter.unusedVariables false
set_option maxRecDepth 20000
set_option maxHeartbeats 4000000

/-- A truncation, whatever the robot: code, how many, what is left. -/
def TabS.cutA (T : TabS) (r t : Int) : Int × Nat × TabS := if 0 ≤ r ∧ r < T.nr then (0, T.trunc r.toNat (max t (T.base : Int)).toNat) else (2, 0, T)
def cutXPost (lab : Nat → Nat) (M : TabM) (x : Int × Nat × TabS) (w : World) (e : Ending) (w' : World) : Prop :=
  ∃ M' : TabM, e = .returned (.tuple #[.int .i64 (x.2.1), .int .u8 x.1]) ∧ TAt w' lab M' x.2.2 ∧ Con x.2.2 ∧ M'.t = M.t ∧ KeptL lab tabL w w'
theorem trunc_ex (M : TabM) (T : TabS) (lab : Nat → Nat) (r t : Int) (w : World) (h : TAt w lab M T) (hc : Con T) (ht : t ≤ 9223372036854775807) : Calls Tryz.prog 32 #[.pointer (some ⟨M.t, 0, none⟩), .int .i64 (r), .int .i64 (t)] w (cutXPost lab M (T.cutA r t) w) := by
  have hnr := h.bd.nr
  by_cases hr : 0 ≤ r ∧ r < T.nr
  · obtain ⟨rn, rfl⟩ := Int.eq_ofNat_of_zero_le hr.1
    refine (trunc_any M T lab rn (max t (T.base : Int)).toNat t w h hc (by omega) (by omega) ht).mono ?_
    rintro e w' ⟨M', rfl, h1, h2, h3, h4⟩
    rw [show T.cutA rn t = (0, T.trunc rn (max t (T.base : Int)).toNat) by simp only [TabS.cutA]; rw [if_pos hr]; rfl]
    exact ⟨M', rfl, h1, h2, h3, h4.mono (fun x hx => by unfold tabL; omega)⟩
  · refine (trunc_no M T lab r t w h hr).mono ?_
    rintro e w' ⟨rfl, rfl⟩
    rw [show T.cutA r t = (2, 0, T) by simp only [TabS.cutA]; rw [if_neg hr]]
    exact ⟨M, rfl, h, hc, rfl, KeptL.refl _ _ _⟩
theorem release_ex (M : TabM) (T : TabS) (lab : Nat → Nat) (r : Int) (w : World) (h : TAt w lab M T) (hc : Con T) : Calls Tryz.prog 31 #[.pointer (some ⟨M.t, 0, none⟩), .int .i64 (r)] w (cutXPost lab M (T.cutA r T.base) w) := by
  have hnr := h.bd.nr
  by_cases hr : 0 ≤ r ∧ r < T.nr
  · obtain ⟨rn, rfl⟩ := Int.eq_ofNat_of_zero_le hr.1
    refine (release_any M T lab rn w h hc (by omega)).mono ?_
    rintro e w' ⟨M', rfl, h1, h2, h3, h4⟩
    rw [show T.cutA rn T.base = (0, T.trunc rn T.base) by simp only [TabS.cutA]; rw [if_pos hr, show (max (T.base : Int) T.base).toNat = T.base by omega]; rfl]
    exact ⟨M', rfl, h1, h2, h3, h4.mono (fun x hx => by unfold tabL; omega)⟩
  · refine (release_no M T lab r w h hr).mono ?_
    rintro e w' ⟨rfl, rfl⟩
    rw [show T.cutA r T.base = (2, 0, T) by simp only [TabS.cutA]; rw [if_neg hr]]
    exact ⟨M, rfl, h, hc, rfl, KeptL.refl _ _ _⟩
def cutV (x : Int × Nat × TabS) : List Int := remV x.1 x.2.1
/-- The table was written, then the answer was made by a small function. -/
theorem doX_tab {w W w5 w7 w6 : World} {lab : Nat → Nat} {d k : Nat} {Q : DkS} {M M' : TabM} {N : MkM} {T' : TabS} {c : Int} {vals : List Int} {v : Value}
    (HD : DX w lab d (.pointer (some ⟨M.t, 0, none⟩)) (.pointer (some ⟨N.m, 0, none⟩)) Q.L Q.nx) (HM : MkAt w lab N Q.S) (HL : ∀ j, w.heap.size ≤ j → lab j = 0) (HP : isHeap Q.L) (HBK : Q.L.length ≤ k ∧ Q.nx ≤ k ∧ Q.S.cn ≤ k)
    (hB : Below w.heap.size w W) (hs : w.heap.size + 1 < W.heap.size) (hk5 : KeptL lab tabL W w5) (hT : TAt w5 lab M' T') (hC : Con T') (hMt : M'.t = M.t) (hB7 : Below w5.heap.size w5 w7) (hI : IntsAt w7 w5.heap.size v vals) (hkb : KeptBut (w.heap.size + 1) w7 w6) :
    doXPost lab d k ((c, vals), { Q with O := some T' }) w (.returned (.agg #[.int .u8 c, v])) w6 := by
  have s1 := hB.size
  have s5 := hk5.size
  have s7 := hB7.size
  have hk7 : KeptL lab tabL W w7 := hk5.trans (KeptL.of_below hB7)
  exact doX_fin (D' := { Q with O := some T' }) HL hB hs hk7 (fun x hx => by unfold tabL at hx; unfold tagL; omega) (fun _ _ => rfl) (HD.carry hB hk7 (fun _ _ => rfl) (by simp [tabL]) (by simp [tabL])) (HM.carry hB hk7 (fun _ _ => rfl) (by simp [tabL]) (by simp [tabL]) (by simp [tabL])) ⟨M', by rw [hMt], hT.below hB7, hC⟩ hkb HP ⟨Nat.le_succ_of_le HBK.1, Nat.le_succ_of_le HBK.2.1, Nat.le_succ_of_le HBK.2.2⟩ (hI.of hkb.size (fun j hj hl => hkb.block j hl (by omega)) (by omega))
theorem dx_release (A B C D : Int) (ao : Option Addr) (n cap : Nat) (lab : Nat → Nat) (d k : Nat) (Q : DkS) (T : TabS) (hO : Q.O = some T) (w : World) (h : DeskX w lab d k Q) : Calls Tryz.prog 6 #[.pointer (some ⟨d, 0, none⟩), .agg #[.int .i64 (5), .int .i64 (A), .int .i64 (B), .int .i64 (C), .int .i64 (D), .slice ao n cap]] w (doXPost lab d k ((((T.cutA A T.base).1, cutV (T.cutA A T.base)), { Q with O := some (T.cutA A T.base).2.2 })) w) := by
  obtain ⟨⟨tv, N, hd, hm, ht⟩, hl, hp, hbk⟩ := h
  rw [hO] at ht
  obtain ⟨M, rfl, hT, hC⟩ := ht
  have HD := hid hd
  have HM := hid hm
  have HT := hid hT
  have HC := hid hC
  have HL := hid hl
  have HP := hid hp
  have HBK := hid hbk
  have HQ := hid hO
  have c0 := hd.c0
  have ld := hd.lt
  have lF := hl (w.heap.size + 1) (by omega)
  clear hd hm hT hC hl hp hbk hO
  have CL := hid (fun w1 (hB : Below w.heap.size w w1) => release_ex M T lab A w1 (HT.out.below hB) HC.out)
  obtain ⟨cc, hcc⟩ : ∃ x, T.cutA A T.base = x := ⟨_, rfl⟩
  simp only [hcc] at CL ⊢
  obtain ⟨ll, hll⟩ : ∃ l, remV cc.1 cc.2.1 = l := ⟨_, rfl⟩
  have RX := hid (fun w1 => removedX cc.2.1 cc.1 w1)
  simp only [hll] at RX
  rw [show cutV cc = ll from hll]
  clear hcc hll
  go_enter Tryz.func6, Tryz.ntmps6
  go_wp2_with (go_at_call 31; refine hold ?_)
  unfold Hid
  refine (CL.out _ (by (repeat (first | with_reducible exact Below.rf _ | with_reducible exact World.below_ext _ _ | with_reducible refine Below.ex ?_ _ | with_reducible refine Below.al ?_ _ | with_reducible refine Below.setCell ?_ (by simp) _ | with_reducible refine Below.drew ?_)))).mono ?_
  rintro e w5 ⟨M', rfl, hT5, hC5, hM5, hk5⟩
  have f0 := hk5.cell (b := w.heap.size + 1) 0 (by simp) (by rw [lF]; simp [tabL])
  have f1 := hk5.cell (b := w.heap.size + 1) 1 (by simp) (by rw [lF]; simp [tabL])
  have f2 := hk5.frozen (b := w.heap.size + 1) 0 (by simp) (by rw [lF]; simp [tabL])
  have f3 := hk5.frozen (b := w.heap.size + 1) 1 (by simp) (by rw [lF]; simp [tabL])
  simp [go_sem, ↓IntWalk.iteOmega] at f0 f1 f2 f3
  have s5 := hk5.size
  simp at s5
  have HT5 := hid hT5
  have HC5 := hid hC5
  have HM5 := hid hM5
  have HK5 := hid hk5
  clear hT5 hk5 c0 hC5 hM5
  go_wp2_with (go_at_call 30; refine hold ?_)
  unfold Hid
  refine (RX.out _).mono ?_
  rintro e w7 ⟨⟨v, rfl, hI⟩, hB7⟩
  have g0 := (hB7.cell (p := ⟨w.heap.size + 1, 0, none⟩) (by first | omega | (simp <;> omega))).trans f0
  have g1 := (hB7.cell (p := ⟨w.heap.size + 1, 1, none⟩) (by first | omega | (simp <;> omega))).trans f1
  have g2 := (hB7.frozen (p := ⟨w.heap.size + 1, 0, none⟩) (by first | omega | (simp <;> omega))).trans f2
  have g3 := (hB7.frozen (p := ⟨w.heap.size + 1, 1, none⟩) (by first | omega | (simp <;> omega))).trans f3
  have s7 := hB7.size
  have HI := hid hI
  have HB7 := hid hB7
  obtain ⟨ao5, cap5, rfl, -⟩ := hI
  clear hB7 f0 f1 f2 f3
  go_wp2
  refine bodyPost_ret (v := .agg #[.int .u8 cc.1, .slice ao5 ll.length cap5]) (by simp [results, Tryz.results6, go_sem, ↓IntWalk.iteOmega, *]) rfl ?_
  exact doX_tab HD.out HM.out HL.out HP.out HBK.out (by (repeat (first | with_reducible exact Below.rf _ | with_reducible exact World.below_ext _ _ | with_reducible refine Below.ex ?_ _ | with_reducible refine Below.al ?_ _ | with_reducible refine Below.setCell ?_ (by simp) _ | with_reducible refine Below.drew ?_))) (by simp <;> omega) HK5.out HT5.out HC5.out HM5.out HB7.out HI.out (by (repeat (first | with_reducible exact KeptBut.refl _ _ | with_reducible refine KeptBut.ex ?_ _ | with_reducible refine KeptBut.al ?_ _ | with_reducible refine KeptBut.set' ?_ _ _)))
theorem dx_trunc (A B C D : Int) (ao : Option Addr) (n cap : Nat) (lab : Nat → Nat) (d k : Nat) (Q : DkS) (T : TabS) (hO : Q.O = some T) (w : World) (h : DeskX w lab d k Q) (hCm : C ≤ 9223372036854775807) : Calls Tryz.prog 6 #[.pointer (some ⟨d, 0, none⟩), .agg #[.int .i64 (6), .int .i64 (A), .int .i64 (B), .int .i64 (C), .int .i64 (D), .slice ao n cap]] w (doXPost lab d k (((T.cutA A C).1, cutV (T.cutA A C)), { Q with O := some (T.cutA A C).2.2 }) w) := by
  have HX := hid hCm
  clear hCm
  obtain ⟨⟨tv, N, hd, hm, ht⟩, hl, hp, hbk⟩ := h
  rw [hO] at ht
  obtain ⟨M, rfl, hT, hC⟩ := ht
  have HD := hid hd
  have HM := hid hm
  have HT := hid hT
  have HC := hid hC
  have HL := hid hl
  have HP := hid hp
  have HBK := hid hbk
  have HQ := hid hO
  have c0 := hd.c0
  have ld := hd.lt
  have lF := hl (w.heap.size + 1) (by omega)
  clear hd hm hT hC hl hp hbk hO
  have CL := hid (fun w1 (hB : Below w.heap.size w w1) => trunc_ex M T lab A C w1 (HT.out.below hB) HC.out HX.out)
  obtain ⟨cc, hcc⟩ : ∃ x, T.cutA A C = x := ⟨_, rfl⟩
  simp only [hcc] at CL ⊢
  obtain ⟨ll, hll⟩ : ∃ l, remV cc.1 cc.2.1 = l := ⟨_, rfl⟩
  have RX := hid (fun w1 => removedX cc.2.1 cc.1 w1)
  simp only [hll] at RX
  rw [show cutV cc = ll from hll]
  clear hcc hll
  go_enter Tryz.func6, Tryz.ntmps6
  go_wp2_with (go_at_call 32; refine hold ?_)
  unfold Hid
  refine (CL.out _ (by (repeat (first | with_reducible exact Below.rf _ | with_reducible exact World.below_ext _ _ | with_reducible refine Below.ex ?_ _ | with_reducible refine Below.al ?_ _ | with_reducible refine Below.setCell ?_ (by simp) _ | with_reducible refine Below.drew ?_)))).mono ?_
  rintro e w5 ⟨M', rfl, hT5, hC5, hM5, hk5⟩
  have f0 := hk5.cell (b := w.heap.size + 1) 0 (by simp) (by rw [lF]; simp [tabL])
  have f1 := hk5.cell (b := w.heap.size + 1) 1 (by simp) (by rw [lF]; simp [tabL])
  have f2 := hk5.frozen (b := w.heap.size + 1) 0 (by simp) (by rw [lF]; simp [tabL])
  have f3 := hk5.frozen (b := w.heap.size + 1) 1 (by simp) (by rw [lF]; simp [tabL])
  simp [go_sem, ↓IntWalk.iteOmega] at f0 f1 f2 f3
  have s5 := hk5.size
  simp at s5
  have HT5 := hid hT5
  have HC5 := hid hC5
  have HM5 := hid hM5
  have HK5 := hid hk5
  clear hT5 hk5 c0 hC5 hM5
  go_wp2_with (go_at_call 30; refine hold ?_)
  unfold Hid
  refine (RX.out _).mono ?_
  rintro e w7 ⟨⟨v, rfl, hI⟩, hB7⟩
  have g0 := (hB7.cell (p := ⟨w.heap.size + 1, 0, none⟩) (by first | omega | (simp <;> omega))).trans f0
  have g1 := (hB7.cell (p := ⟨w.heap.size + 1, 1, none⟩) (by first | omega | (simp <;> omega))).trans f1
  have g2 := (hB7.frozen (p := ⟨w.heap.size + 1, 0, none⟩) (by first | omega | (simp <;> omega))).trans f2
  have g3 := (hB7.frozen (p := ⟨w.heap.size + 1, 1, none⟩) (by first | omega | (simp <;> omega))).trans f3
  have s7 := hB7.size
  have HI := hid hI
  have HB7 := hid hB7
  obtain ⟨ao5, cap5, rfl, -⟩ := hI
  clear hB7 f0 f1 f2 f3
  go_wp2
  refine bodyPost_ret (v := .agg #[.int .u8 cc.1, .slice ao5 ll.length cap5]) (by simp [results, Tryz.results6, go_sem, ↓IntWalk.iteOmega, *]) rfl ?_
  exact doX_tab HD.out HM.out HL.out HP.out HBK.out (by (repeat (first | with_reducible exact Below.rf _ | with_reducible exact World.below_ext _ _ | with_reducible refine Below.ex ?_ _ | with_reducible refine Below.al ?_ _ | with_reducible refine Below.setCell ?_ (by simp) _ | with_reducible refine Below.drew ?_))) (by simp <;> omega) HK5.out HT5.out HC5.out HM5.out HB7.out HI.out (by (repeat (first | with_reducible exact KeptBut.refl _ _ | with_reducible refine KeptBut.ex ?_ _ | with_reducible refine KeptBut.al ?_ _ | with_reducible refine KeptBut.set' ?_ _ _)))
end Go.Proofs.Qxb6500717aGreat
