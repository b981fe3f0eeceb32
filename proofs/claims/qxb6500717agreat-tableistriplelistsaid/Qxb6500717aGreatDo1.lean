/-
  'do': the steps on the table.
-/
import Derived.Test.Qxb6500717aGreatDk
namespace Go.Proofs.Qxb6500717aGreat
open Go.RowKit
set_option linter.unusedSimpArgs false
set_option linter.unusedVariables false

theorem Con.stand {T : TabS} (h : Con T) (r c t : Int) : Con (T.stand r c t).2 := by
  by_cases h0 : (T.stand r c t).1 = 0
  · obtain ⟨rn, cn, tn, -, -, -, hr, hc, hw, hbz, -, -, -, e⟩ := TabS.stand_yes h0
    rw [e]
    refine ⟨?_, h.gp, h.pg⟩
    show T.held + 1 = sumR (T.sit rn cn tn).own T.nr
    rw [h.held]
    refine (sumR_set 1 ?_ (fun i hi => ?_) T.nr hr).symm
    · simp only [TabS.own, TabS.sit, upd_at, List.length_append, List.length_singleton]
      omega
    · simp only [TabS.own, TabS.sit, upd_ne _ _ hi]
  · rw [TabS.stand_no h0]; exact h

/-- Only the labels of a table. -/
def clT (lab : Nat → Nat) (j : Nat) : Nat := if 6 ≤ lab j ∧ lab j < 26 then lab j else 0
theorem TAt.rl {w : World} {lab lab2 : Nat → Nat} {M : TabM} {T : TabS} (h : TAt w lab M T) (hl : ∀ j, j < w.heap.size → tabL (lab j) → lab2 j = lab j) : TAt w lab2 M T := by
  have hnr := h.bd.nr
  have tl : ∀ {x : Nat}, 6 ≤ x → x < 26 → tabL x := fun h1 h2 => ⟨h1, h2⟩
  refine { h with
    bsr := fun r hr => ?_, lt := (hl _ h.bt.lt (by rw [h.lt]; exact tl (by omega) (by omega))).trans h.lt, lg := (hl _ h.bg.lt (by rw [h.lg]; exact tl (by omega) (by omega))).trans h.lg,
    lp := (hl _ h.bp.lt (by rw [h.lp]; exact tl (by omega) (by omega))).trans h.lp, ls := (hl _ h.bs.lt (by rw [h.ls]; exact tl (by omega) (by omega))).trans h.ls, lpr := fun r hr => (hl _ (h.bpr r hr).lt (by rw [h.lpr r hr]; exact tl (by omega) (by omega))).trans (h.lpr r hr) }
  obtain ⟨ao, cap, h1, h2, h3⟩ := (h.bsr r hr).ex
  refine ⟨ao, cap, h1, h2, ?_⟩
  rcases h3 with h3 | ⟨b, e, hb, hp⟩
  · exact Or.inl h3
  · exact Or.inr ⟨b, e, ⟨(hl b hp.lt (by rw [hb.1]; exact tl (by omega) (by omega))).trans hb.1, hb.2⟩, hp⟩
theorem TAt.clamp {w : World} {lab : Nat → Nat} {M : TabM} {T : TabS} (h : TAt w lab M T) : TAt w (clT lab) M T := h.rl (fun j _ ht => if_pos ht)
theorem clT_tab {lab : Nat → Nat} {j : Nat} (h : tabL (clT lab j)) : lab j = clT lab j := by
  unfold clT at h ⊢
  split
  · rfl
  · rename_i hn; rw [if_neg hn] at h; unfold tabL at h; omega
theorem TAt.unclamp {w : World} {lab : Nat → Nat} {M : TabM} {T : TabS} (h : TAt w (clT lab) M T) : TAt w lab M T := h.rl (fun j _ ht => clT_tab ht)
theorem KeptL.unclamp {w w' : World} {lab : Nat → Nat} {A : Nat → Prop} (h : KeptL (clT lab) A w w') (h0 : ¬ A 0) : KeptL lab tabL w w' :=
  ⟨h.os, h.tape, h.output, h.size, fun j hj hn => h.block j hj (by
    have e : clT lab j = 0 := if_neg hn
    rw [e]; exact h0)⟩
def mixL (n : Nat) (lab lab' : Nat → Nat) (j : Nat) : Nat := if j < n then lab j else lab' j
theorem TAt.mix {w : World} {lab lab' : Nat → Nat} {M : TabM} {T : TabS} {n : Nat} (h : TAt w lab' M T) (hl : ∀ j, j < n → lab' j = clT lab j) : TAt w (mixL n lab lab') M T :=
  h.rl (fun j hj ht => by
    unfold mixL
    by_cases hj2 : j < n
    · rw [if_pos hj2]
      rw [hl j hj2] at ht ⊢
      exact clT_tab ht
    · rw [if_neg hj2])

theorem do_fin {w w1 w5 w6 : World} {lab lab5 : Nat → Nat} {d k : Nat} {M M' : TabM} {N : MkM} {S : MkS} {T' : TabS} {A : Nat → Prop} {Cd : Int → Prop} {c : Int} {v : Value}
    (HD : DAt w lab d (.pointer (some ⟨M.t, 0, none⟩)) (.pointer (some ⟨N.m, 0, none⟩)) (k + 1)) (HM : MkAt w lab N S) (HCN : S.cn ≤ k) (HL : ∀ j, w.heap.size ≤ j → lab j = 0) (hB : Below w.heap.size w w1) (hs : w.heap.size + 1 < w1.heap.size)
    (hk : KeptL lab A w1 w5) (hA : ∀ x, A x → tabL x) (hl5 : ∀ j, j < w1.heap.size → lab5 j = lab j) (hT : TAt w5 lab5 M' T') (hC : Con T') (hM : M'.t = M.t) (hkb : KeptBut (w.heap.size + 1) w5 w6) (hc : Cd c) (hv : isSl v = true := by rfl) :
    doPost lab d k Cd (some T') w (.returned (.agg #[.int .u8 c, v])) w6 := by
  have hz : lab5 (w.heap.size + 1) = 0 := by rw [hl5 _ hs]; exact HL _ (by omega)
  have s5 := hk.size
  have nA : ∀ {x : Nat}, x < 6 → ¬ A x := fun hx h => by have := hA _ h; unfold tabL at this; omega
  have D1 := (HD.below hB).keptL hk (nA (by omega)) (nA (by omega))
  have M1 := (HM.below hB).keptL hk (nA (by omega)) (nA (by omega)) (nA (by omega))
  have lbl : ∀ j, j < w5.heap.size → lab5 j ≠ 0 → w6.heap[j]? = w5.heap[j]? := fun j hj hn => hkb.block j hj (fun e => hn (by rw [e]; exact hz))
  have hs1 := hB.size
  -- under the old labels, up to w5
  have key : ∀ j, j < w1.heap.size → lab j ≠ 0 → ¬ A (lab j) → w6.heap[j]? = w1.heap[j]? := fun j hj hn hna => by
    rw [hkb.block j (by omega) (fun e => hn (by rw [e]; exact HL _ (by omega))), hk.block j hj hna]
  have D2 : DAt w6 lab5 d (.pointer (some ⟨M.t, 0, none⟩)) (.pointer (some ⟨N.m, 0, none⟩)) (k + 1) := (HD.below hB).of (by have := hkb.size; omega) (fun j hj => hl5 j hj) (fun j hj hl => key j hj (by omega) (nA (by omega)))
  have M2 : MkAt w6 lab5 N S := (HM.below hB).of (by have := hkb.size; omega) (fun j hj => hl5 j hj) (fun j hj hl => key j hj (by omega) (nA (by omega)))
  refine doPost.make (tv := .pointer (some ⟨M.t, 0, none⟩)) (N := N) (S := S) hc D2 M2 (by omega) ⟨M', by rw [hM], hT.of hkb.size (fun _ _ => rfl) (fun j hj ht => lbl j hj (by unfold tabL at ht; omega)), hC⟩ (fun j hj => hl5 j (by omega)) ?_ hv
  refine ⟨?_, ?_, ?_, by have := hkb.size; omega, fun j hj hn => ?_⟩
  · rw [hkb.os, hk.os, hB.os]
  · rw [hkb.tape, hk.tape, hB.tape]
  · rw [hkb.output, hk.output, hB.output]
  · rw [hkb.block j (by omega) (by omega), hk.block j (by omega) (fun h => hn (by have := hA _ h; unfold tabL at this; unfold tagL; omega)), hB.block j hj]
set_option maxRecDepth 20000
set_option maxHeartbeats 4000000

theorem do_adv (A B C D : Int) (ao : Option Addr) (n cap : Nat) (lab : Nat → Nat) (d k : Nat) (T : TabS) (w : World) (h : Desk w lab d k (some T)) : Calls Tryz.prog 6 #[.pointer (some ⟨d, 0, none⟩), .agg #[.int .i64 (1), .int .i64 (A), .int .i64 (B), .int .i64 (C), .int .i64 (D), .slice ao n cap]] w (doPost lab d k (fun c => c = T.advC C) (some (T.advT C)) w) := by
  obtain ⟨⟨tv, N, S, hd, hm, hcn, ht⟩, hl⟩ := h
  obtain ⟨M, rfl, hT, hC⟩ := ht
  have HD := hid (hd.more (Nat.le_succ k))
  have HM := hid hm
  have HCN := hid hcn
  have HT := hid hT
  have HC := hid hC
  have HL := hid hl
  have c0 := hd.c0
  have ld := hd.lt
  have lF := hl (w.heap.size + 1) (by omega)
  clear hd hm hcn hT hC hl
  go_enter Tryz.func6, Tryz.ntmps6
  go_wp2_with (go_at_call 26; refine hold ?_)
  unfold Hid
  refine (adv_any M T lab C _ (HT.out.below (by (repeat (first | with_reducible exact Below.rf _ | with_reducible exact World.below_ext _ _ | with_reducible refine Below.ex ?_ _ | with_reducible refine Below.al ?_ _ | with_reducible refine Below.setCell ?_ (by simp) _ | with_reducible refine Below.drew ?_)))) HC.out).mono ?_
  rintro e w5 ⟨M', rfl, hT5, hC5, hM5, hk5⟩
  have f0 := hk5.cell (b := w.heap.size + 1) 0 (by simp) (by rw [lF]; simp [tabL])
  have f1 := hk5.cell (b := w.heap.size + 1) 1 (by simp) (by rw [lF]; simp [tabL])
  have f2 := hk5.frozen (b := w.heap.size + 1) 0 (by simp) (by rw [lF]; simp [tabL])
  have f3 := hk5.frozen (b := w.heap.size + 1) 1 (by simp) (by rw [lF]; simp [tabL])
  simp [go_sem, ↓IntWalk.iteOmega] at f0 f1 f2 f3
  have s5 := hk5.size
  simp at s5
  have FIN := fun w6 v hv hkb => do_fin (w6 := w6) (v := v) (hv := hv) (Cd := fun c => c = T.advC C) HD.out HM.out HCN.out HL.out (by (repeat (first | with_reducible exact Below.rf _ | with_reducible exact World.below_ext _ _ | with_reducible refine Below.ex ?_ _ | with_reducible refine Below.al ?_ _ | with_reducible refine Below.setCell ?_ (by simp) _ | with_reducible refine Below.drew ?_))) (by simp) hk5 (fun x hx => hx) (fun _ _ => rfl) hT5 hC5 hM5 hkb rfl
  have FIN2 := hid FIN
  clear hT5 hC5 hM5 hk5 c0 FIN
  go_wp2
  refine bodyPost_ret (v := .agg #[.int .u8 (T.advC C), .slice none 0 0]) (by simp [results, Tryz.results6, go_sem, ↓IntWalk.iteOmega, *]) rfl ?_
  exact FIN2.out _ _ rfl (by (repeat (first | with_reducible exact KeptBut.refl _ _ | with_reducible refine KeptBut.ex ?_ _ | with_reducible refine KeptBut.al ?_ _ | with_reducible refine KeptBut.set' ?_ _ _)))

theorem do_reserve (A B C D : Int) (ao : Option Addr) (n cap : Nat) (lab : Nat → Nat) (d k : Nat) (T : TabS) (w : World) (h : Desk w lab d k (some T)) : Calls Tryz.prog 6 #[.pointer (some ⟨d, 0, none⟩), .agg #[.int .i64 (2), .int .i64 (A), .int .i64 (B), .int .i64 (C), .int .i64 (D), .slice ao n cap]] w (doPost lab d k (fun c => c = (T.reserve A B C).1) (some (T.reserve A B C).2) w) := by
  obtain ⟨⟨tv, N, S, hd, hm, hcn, ht⟩, hl⟩ := h
  obtain ⟨M, rfl, hT, hC⟩ := ht
  have HD := hid (hd.more (Nat.le_succ k))
  have HM := hid hm
  have HCN := hid hcn
  have HT := hid hT
  have HC := hid hC
  have HL := hid hl
  have c0 := hd.c0
  have ld := hd.lt
  have lF := hl (w.heap.size + 1) (by omega)
  clear hd hm hcn hT hC hl
  go_enter Tryz.func6, Tryz.ntmps6
  go_wp2_with (go_at_call 27; refine hold ?_)
  unfold Hid
  refine (reserve_any M T (clT lab) A B C _ (HT.out.clamp.below (by (repeat (first | with_reducible exact Below.rf _ | with_reducible exact World.below_ext _ _ | with_reducible refine Below.ex ?_ _ | with_reducible refine Below.al ?_ _ | with_reducible refine Below.setCell ?_ (by simp) _ | with_reducible refine Below.drew ?_))))).mono ?_
  rintro e w5 ⟨rfl, hT5, hk5⟩
  replace hk5 := hk5.unclamp (by omega)
  have f0 := hk5.cell (b := w.heap.size + 1) 0 (by simp) (by rw [lF]; simp [tabL])
  have f1 := hk5.cell (b := w.heap.size + 1) 1 (by simp) (by rw [lF]; simp [tabL])
  have f2 := hk5.frozen (b := w.heap.size + 1) 0 (by simp) (by rw [lF]; simp [tabL])
  have f3 := hk5.frozen (b := w.heap.size + 1) 1 (by simp) (by rw [lF]; simp [tabL])
  simp [go_sem, ↓IntWalk.iteOmega] at f0 f1 f2 f3
  have s5 := hk5.size
  simp at s5
  have FIN := hid (fun w6 v hv hkb => do_fin (w6 := w6) (v := v) (hv := hv) (Cd := fun c => c = (T.reserve A B C).1) HD.out HM.out HCN.out HL.out (by (repeat (first | with_reducible exact Below.rf _ | with_reducible exact World.below_ext _ _ | with_reducible refine Below.ex ?_ _ | with_reducible refine Below.al ?_ _ | with_reducible refine Below.setCell ?_ (by simp) _ | with_reducible refine Below.drew ?_))) (by simp) hk5 (fun x hx => hx) (fun _ _ => rfl) hT5.unclamp (HC.out.reserve HT.out.bd A B C) rfl hkb rfl)
  clear hT5 hk5 c0
  go_wp2
  refine bodyPost_ret (v := .agg #[.int .u8 (T.reserve A B C).1, .slice none 0 0]) (by simp [results, Tryz.results6, go_sem, ↓IntWalk.iteOmega, *]) rfl ?_
  exact FIN.out _ _ rfl (by (repeat (first | with_reducible exact KeptBut.refl _ _ | with_reducible refine KeptBut.ex ?_ _ | with_reducible refine KeptBut.al ?_ _ | with_reducible refine KeptBut.set' ?_ _ _)))

theorem do_stand (A B C D : Int) (ao : Option Addr) (n cap : Nat) (lab : Nat → Nat) (d k : Nat) (T : TabS) (w : World) (h : Desk w lab d k (some T)) : Calls Tryz.prog 6 #[.pointer (some ⟨d, 0, none⟩), .agg #[.int .i64 (4), .int .i64 (A), .int .i64 (B), .int .i64 (C), .int .i64 (D), .slice ao n cap]] w (doPost lab d k (fun c => c = (T.stand A B C).1) (some (T.stand A B C).2) w) := by
  obtain ⟨⟨tv, N, S, hd, hm, hcn, ht⟩, hl⟩ := h
  obtain ⟨M, rfl, hT, hC⟩ := ht
  have HD := hid (hd.more (Nat.le_succ k))
  have HM := hid hm
  have HCN := hid hcn
  have HT := hid hT
  have HC := hid hC
  have HL := hid hl
  have c0 := hd.c0
  have ld := hd.lt
  have lF := hl (w.heap.size + 1) (by omega)
  clear hd hm hcn hT hC hl
  go_enter Tryz.func6, Tryz.ntmps6
  go_wp2_with (go_at_call 29; refine hold ?_)
  unfold Hid
  refine (stand_any M T (clT lab) A B C _ (HT.out.clamp.below (by (repeat (first | with_reducible exact Below.rf _ | with_reducible exact World.below_ext _ _ | with_reducible refine Below.ex ?_ _ | with_reducible refine Below.al ?_ _ | with_reducible refine Below.setCell ?_ (by simp) _ | with_reducible refine Below.drew ?_)))) HC.out).mono ?_
  rintro e w5 ⟨lab', M', rfl, hT5, hM5, hlab, hk5⟩
  replace hk5 := hk5.unclamp (by omega)
  have f0 := hk5.cell (b := w.heap.size + 1) 0 (by simp) (by rw [lF]; simp [tabL])
  have f1 := hk5.cell (b := w.heap.size + 1) 1 (by simp) (by rw [lF]; simp [tabL])
  have f2 := hk5.frozen (b := w.heap.size + 1) 0 (by simp) (by rw [lF]; simp [tabL])
  have f3 := hk5.frozen (b := w.heap.size + 1) 1 (by simp) (by rw [lF]; simp [tabL])
  simp [go_sem, ↓IntWalk.iteOmega] at f0 f1 f2 f3
  have s5 := hk5.size
  simp at s5
  have hs5 := hk5.size
  have FIN := hid (fun w6 v hv hkb => do_fin (w6 := w6) (v := v) (hv := hv) (Cd := fun c => c = (T.stand A B C).1) HD.out HM.out HCN.out HL.out (by (repeat (first | with_reducible exact Below.rf _ | with_reducible exact World.below_ext _ _ | with_reducible refine Below.ex ?_ _ | with_reducible refine Below.al ?_ _ | with_reducible refine Below.setCell ?_ (by simp) _ | with_reducible refine Below.drew ?_))) (by simp) hk5 (fun x hx => hx) (fun j hj => if_pos hj) (hT5.mix hlab) (HC.out.stand A B C) hM5 hkb rfl)
  clear hT5 hk5 hlab hM5 c0
  go_wp2
  refine bodyPost_ret (v := .agg #[.int .u8 (T.stand A B C).1, .slice none 0 0]) (by simp [results, Tryz.results6, go_sem, ↓IntWalk.iteOmega, *]) rfl ?_
  exact FIN.out _ _ rfl (by (repeat (first | with_reducible exact KeptBut.refl _ _ | with_reducible refine KeptBut.ex ?_ _ | with_reducible refine KeptBut.al ?_ _ | with_reducible refine KeptBut.set' ?_ _ _)))


theorem do_hold (A B C D : Int) (ao : Option Addr) (n cap : Nat) (lab : Nat → Nat) (d k : Nat) (T : TabS) (w : World) (h : Desk w lab d k (some T)) : Calls Tryz.prog 6 #[.pointer (some ⟨d, 0, none⟩), .agg #[.int .i64 (7), .int .i64 (A), .int .i64 (B), .int .i64 (C), .int .i64 (D), .slice ao n cap]] w (doPost lab d k (fun c => c = 0) (some T) w) := by
  obtain ⟨⟨tv, N, S, hd, hm, hcn, ht⟩, hl⟩ := h
  obtain ⟨M, rfl, hT, hC⟩ := ht
  have HD := hid (hd.more (Nat.le_succ k))
  have HM := hid hm
  have HCN := hid hcn
  have HT := hid hT
  have HC := hid hC
  have HL := hid hl
  have c0 := hd.c0
  have ld := hd.lt
  have lF := hl (w.heap.size + 1) (by omega)
  clear hd hm hcn hT hC hl
  go_enter Tryz.func6, Tryz.ntmps6
  go_wp2_with (first | (go_at_call 33; refine (holdQ_any M T lab B C _ (HT.out.below (by (repeat (first | with_reducible exact Below.rf _ | with_reducible exact World.below_ext _ _ | with_reducible refine Below.ex ?_ _ | with_reducible refine Below.al ?_ _ | with_reducible refine Below.setCell ?_ (by simp) _ | with_reducible refine Below.drew ?_))))).mono ?_; rintro e w' ⟨rfl, z1, rfl⟩) | (go_at_call 15; refine (ok_any _ ⟨_, _, _, rfl⟩ _).mono ?_; rintro e w' ⟨rfl, z2, rfl⟩))
  refine bodyPost_ret (v := .agg #[.int .u8 0, .slice (some ⟨w.heap.size + 1 + 1 + z1.heap.size, 0, none⟩) 1 1]) (by simp [results, Tryz.results6, go_sem, ↓IntWalk.iteOmega, *]) rfl ?_
  exact do_fin (w1 := World.ext _ _) (w5 := World.ext _ _) (A := tabL) (Cd := fun c => c = 0) HD.out HM.out HCN.out HL.out (by (repeat (first | with_reducible exact Below.rf _ | with_reducible exact World.below_ext _ _ | with_reducible refine Below.ex ?_ _ | with_reducible refine Below.al ?_ _ | with_reducible refine Below.setCell ?_ (by simp) _ | with_reducible refine Below.drew ?_))) (by simp <;> omega) (KeptL.refl lab _ _) (fun x hx => hx) (fun _ _ => rfl) (HT.out.below (by (repeat (first | with_reducible exact Below.rf _ | with_reducible exact World.below_ext _ _ | with_reducible refine Below.ex ?_ _ | with_reducible refine Below.al ?_ _ | with_reducible refine Below.setCell ?_ (by simp) _ | with_reducible refine Below.drew ?_)))) HC.out rfl (KeptBut.refl _ _) rfl

theorem do_at (A B C D : Int) (ao : Option Addr) (n cap : Nat) (lab : Nat → Nat) (d k : Nat) (T : TabS) (w : World) (h : Desk w lab d k (some T)) : Calls Tryz.prog 6 #[.pointer (some ⟨d, 0, none⟩), .agg #[.int .i64 (8), .int .i64 (A), .int .i64 (B), .int .i64 (C), .int .i64 (D), .slice ao n cap]] w (doPost lab d k (fun c => c = 0) (some T) w) := by
  obtain ⟨⟨tv, N, S, hd, hm, hcn, ht⟩, hl⟩ := h
  obtain ⟨M, rfl, hT, hC⟩ := ht
  have HD := hid (hd.more (Nat.le_succ k))
  have HM := hid hm
  have HCN := hid hcn
  have HT := hid hT
  have HC := hid hC
  have HL := hid hl
  have c0 := hd.c0
  have ld := hd.lt
  have lF := hl (w.heap.size + 1) (by omega)
  clear hd hm hcn hT hC hl
  go_enter Tryz.func6, Tryz.ntmps6
  go_wp2_with (first | (go_at_call 34; refine (atQ_any M T lab A C _ (HT.out.below (by (repeat (first | with_reducible exact Below.rf _ | with_reducible exact World.below_ext _ _ | with_reducible refine Below.ex ?_ _ | with_reducible refine Below.al ?_ _ | with_reducible refine Below.setCell ?_ (by simp) _ | with_reducible refine Below.drew ?_))))).mono ?_; rintro e w' ⟨rfl, z1, rfl⟩) | (go_at_call 15; refine (ok_any _ ⟨_, _, _, rfl⟩ _).mono ?_; rintro e w' ⟨rfl, z2, rfl⟩))
  refine bodyPost_ret (v := .agg #[.int .u8 0, .slice (some ⟨w.heap.size + 1 + 1 + z1.heap.size, 0, none⟩) 1 1]) (by simp [results, Tryz.results6, go_sem, ↓IntWalk.iteOmega, *]) rfl ?_
  exact do_fin (w1 := World.ext _ _) (w5 := World.ext _ _) (A := tabL) (Cd := fun c => c = 0) HD.out HM.out HCN.out HL.out (by (repeat (first | with_reducible exact Below.rf _ | with_reducible exact World.below_ext _ _ | with_reducible refine Below.ex ?_ _ | with_reducible refine Below.al ?_ _ | with_reducible refine Below.setCell ?_ (by simp) _ | with_reducible refine Below.drew ?_))) (by simp <;> omega) (KeptL.refl lab _ _) (fun x hx => hx) (fun _ _ => rfl) (HT.out.below (by (repeat (first | with_reducible exact Below.rf _ | with_reducible exact World.below_ext _ _ | with_reducible refine Below.ex ?_ _ | with_reducible refine Below.al ?_ _ | with_reducible refine Below.setCell ?_ (by simp) _ | with_reducible refine Below.drew ?_)))) HC.out rfl (KeptBut.refl _ _) rfl

theorem do_freeC (A B C D : Int) (ao : Option Addr) (n cap : Nat) (lab : Nat → Nat) (d k : Nat) (T : TabS) (w : World) (h : Desk w lab d k (some T)) : Calls Tryz.prog 6 #[.pointer (some ⟨d, 0, none⟩), .agg #[.int .i64 (9), .int .i64 (A), .int .i64 (B), .int .i64 (C), .int .i64 (D), .slice ao n cap]] w (doPost lab d k (fun c => c = 0) (some T) w) := by
  obtain ⟨⟨tv, N, S, hd, hm, hcn, ht⟩, hl⟩ := h
  obtain ⟨M, rfl, hT, hC⟩ := ht
  have HD := hid (hd.more (Nat.le_succ k))
  have HM := hid hm
  have HCN := hid hcn
  have HT := hid hT
  have HC := hid hC
  have HL := hid hl
  have c0 := hd.c0
  have ld := hd.lt
  have lF := hl (w.heap.size + 1) (by omega)
  clear hd hm hcn hT hC hl
  go_enter Tryz.func6, Tryz.ntmps6
  go_wp2_with (first | (go_at_call 36; refine (freeC_any M T lab A B C _ (HT.out.below (by (repeat (first | with_reducible exact Below.rf _ | with_reducible exact World.below_ext _ _ | with_reducible refine Below.ex ?_ _ | with_reducible refine Below.al ?_ _ | with_reducible refine Below.setCell ?_ (by simp) _ | with_reducible refine Below.drew ?_))))).mono ?_; rintro e w' ⟨rfl, z1, rfl⟩) | (go_at_call 35; refine (flag_any _ _).mono ?_; rintro e w' ⟨⟨ao2, n2, cap2, rfl⟩, z2, rfl⟩))
  refine bodyPost_ret (v := .agg #[.int .u8 0, .slice ao2 n2 cap2]) (by simp [results, Tryz.results6, go_sem, ↓IntWalk.iteOmega, *]) rfl ?_
  exact do_fin (w1 := World.ext _ _) (w5 := World.ext _ _) (A := tabL) (Cd := fun c => c = 0) HD.out HM.out HCN.out HL.out (by (repeat (first | with_reducible exact Below.rf _ | with_reducible exact World.below_ext _ _ | with_reducible refine Below.ex ?_ _ | with_reducible refine Below.al ?_ _ | with_reducible refine Below.setCell ?_ (by simp) _ | with_reducible refine Below.drew ?_))) (by simp <;> omega) (KeptL.refl lab _ _) (fun x hx => hx) (fun _ _ => rfl) (HT.out.below (by (repeat (first | with_reducible exact Below.rf _ | with_reducible exact World.below_ext _ _ | with_reducible refine Below.ex ?_ _ | with_reducible refine Below.al ?_ _ | with_reducible refine Below.setCell ?_ (by simp) _ | with_reducible refine Below.drew ?_)))) HC.out rfl (KeptBut.refl _ _) rfl

theorem do_freeM (A B C D : Int) (ao : Option Addr) (n cap : Nat) (lab : Nat → Nat) (d k : Nat) (T : TabS) (w : World) (h : Desk w lab d k (some T)) : Calls Tryz.prog 6 #[.pointer (some ⟨d, 0, none⟩), .agg #[.int .i64 (10), .int .i64 (A), .int .i64 (B), .int .i64 (C), .int .i64 (D), .slice ao n cap]] w (doPost lab d k (fun c => c = 0) (some T) w) := by
  obtain ⟨⟨tv, N, S, hd, hm, hcn, ht⟩, hl⟩ := h
  obtain ⟨M, rfl, hT, hC⟩ := ht
  have HD := hid (hd.more (Nat.le_succ k))
  have HM := hid hm
  have HCN := hid hcn
  have HT := hid hT
  have HC := hid hC
  have HL := hid hl
  have c0 := hd.c0
  have ld := hd.lt
  have lF := hl (w.heap.size + 1) (by omega)
  clear hd hm hcn hT hC hl
  go_enter Tryz.func6, Tryz.ntmps6
  go_wp2_with (first | (go_at_call 37; refine (freeM_any M T lab A B D C _ (HT.out.below (by (repeat (first | with_reducible exact Below.rf _ | with_reducible exact World.below_ext _ _ | with_reducible refine Below.ex ?_ _ | with_reducible refine Below.al ?_ _ | with_reducible refine Below.setCell ?_ (by simp) _ | with_reducible refine Below.drew ?_))))).mono ?_; rintro e w' ⟨rfl, z1, rfl⟩) | (go_at_call 35; refine (flag_any _ _).mono ?_; rintro e w' ⟨⟨ao2, n2, cap2, rfl⟩, z2, rfl⟩))
  refine bodyPost_ret (v := .agg #[.int .u8 0, .slice ao2 n2 cap2]) (by simp [results, Tryz.results6, go_sem, ↓IntWalk.iteOmega, *]) rfl ?_
  exact do_fin (w1 := World.ext _ _) (w5 := World.ext _ _) (A := tabL) (Cd := fun c => c = 0) HD.out HM.out HCN.out HL.out (by (repeat (first | with_reducible exact Below.rf _ | with_reducible exact World.below_ext _ _ | with_reducible refine Below.ex ?_ _ | with_reducible refine Below.al ?_ _ | with_reducible refine Below.setCell ?_ (by simp) _ | with_reducible refine Below.drew ?_))) (by simp <;> omega) (KeptL.refl lab _ _) (fun x hx => hx) (fun _ _ => rfl) (HT.out.below (by (repeat (first | with_reducible exact Below.rf _ | with_reducible exact World.below_ext _ _ | with_reducible refine Below.ex ?_ _ | with_reducible refine Below.al ?_ _ | with_reducible refine Below.setCell ?_ (by simp) _ | with_reducible refine Below.drew ?_)))) HC.out rfl (KeptBut.refl _ _) rfl

theorem do_freeF (A B C D : Int) (ao : Option Addr) (n cap : Nat) (lab : Nat → Nat) (d k : Nat) (T : TabS) (w : World) (h : Desk w lab d k (some T)) : Calls Tryz.prog 6 #[.pointer (some ⟨d, 0, none⟩), .agg #[.int .i64 (11), .int .i64 (A), .int .i64 (B), .int .i64 (C), .int .i64 (D), .slice ao n cap]] w (doPost lab d k (fun c => c = 0) (some T) w) := by
  obtain ⟨⟨tv, N, S, hd, hm, hcn, ht⟩, hl⟩ := h
  obtain ⟨M, rfl, hT, hC⟩ := ht
  have HD := hid (hd.more (Nat.le_succ k))
  have HM := hid hm
  have HCN := hid hcn
  have HT := hid hT
  have HC := hid hC
  have HL := hid hl
  have c0 := hd.c0
  have ld := hd.lt
  have lF := hl (w.heap.size + 1) (by omega)
  clear hd hm hcn hT hC hl
  go_enter Tryz.func6, Tryz.ntmps6
  go_wp2_with (first | (go_at_call 38; refine (freeF_any M T lab A B C _ (HT.out.below (by (repeat (first | with_reducible exact Below.rf _ | with_reducible exact World.below_ext _ _ | with_reducible refine Below.ex ?_ _ | with_reducible refine Below.al ?_ _ | with_reducible refine Below.setCell ?_ (by simp) _ | with_reducible refine Below.drew ?_))))).mono ?_; rintro e w' ⟨rfl, z1, rfl⟩) | (go_at_call 35; refine (flag_any _ _).mono ?_; rintro e w' ⟨⟨ao2, n2, cap2, rfl⟩, z2, rfl⟩))
  refine bodyPost_ret (v := .agg #[.int .u8 0, .slice ao2 n2 cap2]) (by simp [results, Tryz.results6, go_sem, ↓IntWalk.iteOmega, *]) rfl ?_
  exact do_fin (w1 := World.ext _ _) (w5 := World.ext _ _) (A := tabL) (Cd := fun c => c = 0) HD.out HM.out HCN.out HL.out (by (repeat (first | with_reducible exact Below.rf _ | with_reducible exact World.below_ext _ _ | with_reducible refine Below.ex ?_ _ | with_reducible refine Below.al ?_ _ | with_reducible refine Below.setCell ?_ (by simp) _ | with_reducible refine Below.drew ?_))) (by simp <;> omega) (KeptL.refl lab _ _) (fun x hx => hx) (fun _ _ => rfl) (HT.out.below (by (repeat (first | with_reducible exact Below.rf _ | with_reducible exact World.below_ext _ _ | with_reducible refine Below.ex ?_ _ | with_reducible refine Below.al ?_ _ | with_reducible refine Below.setCell ?_ (by simp) _ | with_reducible refine Below.drew ?_)))) HC.out rfl (KeptBut.refl _ _) rfl

theorem do_held (A B C D : Int) (ao : Option Addr) (n cap : Nat) (lab : Nat → Nat) (d k : Nat) (T : TabS) (w : World) (h : Desk w lab d k (some T)) : Calls Tryz.prog 6 #[.pointer (some ⟨d, 0, none⟩), .agg #[.int .i64 (12), .int .i64 (A), .int .i64 (B), .int .i64 (C), .int .i64 (D), .slice ao n cap]] w (doPost lab d k (fun c => c = 0) (some T) w) := by
  obtain ⟨⟨tv, N, S, hd, hm, hcn, ht⟩, hl⟩ := h
  obtain ⟨M, rfl, hT, hC⟩ := ht
  have HD := hid (hd.more (Nat.le_succ k))
  have HM := hid hm
  have HCN := hid hcn
  have HT := hid hT
  have HC := hid hC
  have HL := hid hl
  have c0 := hd.c0
  have ld := hd.lt
  have lF := hl (w.heap.size + 1) (by omega)
  clear hd hm hcn hT hC hl
  go_enter Tryz.func6, Tryz.ntmps6
  go_wp2_with (first | (go_at_call 39; refine (held_any M T lab _ (HT.out.below (by (repeat (first | with_reducible exact Below.rf _ | with_reducible exact World.below_ext _ _ | with_reducible refine Below.ex ?_ _ | with_reducible refine Below.al ?_ _ | with_reducible refine Below.setCell ?_ (by simp) _ | with_reducible refine Below.drew ?_))))).mono ?_; rintro e w' ⟨rfl, rfl⟩) | (go_at_call 40; refine (capacity_any M T lab _ (HT.out.below (by (repeat (first | with_reducible exact Below.rf _ | with_reducible exact World.below_ext _ _ | with_reducible refine Below.ex ?_ _ | with_reducible refine Below.al ?_ _ | with_reducible refine Below.setCell ?_ (by simp) _ | with_reducible refine Below.drew ?_))))).mono ?_; rintro e w' ⟨rfl, rfl⟩) | (go_at_call 41; refine (base_any M T lab _ (HT.out.below (by (repeat (first | with_reducible exact Below.rf _ | with_reducible exact World.below_ext _ _ | with_reducible refine Below.ex ?_ _ | with_reducible refine Below.al ?_ _ | with_reducible refine Below.setCell ?_ (by simp) _ | with_reducible refine Below.drew ?_))))).mono ?_; rintro e w' ⟨rfl, rfl⟩) | (go_at_call 15; refine (ok_any _ ⟨_, _, _, rfl⟩ _).mono ?_; rintro e w' ⟨rfl, z2, rfl⟩))
  refine bodyPost_ret (v := .agg #[.int .u8 0, .slice (some ⟨w.heap.size + 1 + 1, 0, none⟩) 3 3]) (by simp [results, Tryz.results6, go_sem, ↓IntWalk.iteOmega, *]) rfl ?_
  exact do_fin (w1 := World.ext _ _) (w5 := World.ext _ _) (A := tabL) (Cd := fun c => c = 0) HD.out HM.out HCN.out HL.out (by (repeat (first | with_reducible exact Below.rf _ | with_reducible exact World.below_ext _ _ | with_reducible refine Below.ex ?_ _ | with_reducible refine Below.al ?_ _ | with_reducible refine Below.setCell ?_ (by simp) _ | with_reducible refine Below.drew ?_))) (by simp <;> omega) (KeptL.refl lab _ _) (fun x hx => hx) (fun _ _ => rfl) (HT.out.below (by (repeat (first | with_reducible exact Below.rf _ | with_reducible exact World.below_ext _ _ | with_reducible refine Below.ex ?_ _ | with_reducible refine Below.al ?_ _ | with_reducible refine Below.setCell ?_ (by simp) _ | with_reducible refine Below.drew ?_)))) HC.out rfl (KeptBut.refl _ _) rfl

theorem remov_all (M : TabM) (T : TabS) (lab : Nat → Nat) (r t : Int) (w : World) (h : TAt w lab M T) (ht : t ≤ 9223372036854775807) : Calls Tryz.prog 42 #[.pointer (some ⟨M.t, 0, none⟩), .int .i64 (r), .int .i64 (t)] w fun e w' => (∃ n : Nat, e = .returned (.int .i64 (n))) ∧ ∃ z, w' = w.ext z := by
  by_cases hr : 0 ≤ r ∧ r < T.nr
  · obtain ⟨rn, rfl⟩ := Int.eq_ofNat_of_zero_le hr.1
    obtain ⟨tn, htn⟩ : ∃ tn : Nat, (tn : Int) = max t (T.base : Int) := ⟨(max t (T.base : Int)).toNat, by omega⟩
    refine (remov_any M T lab rn tn t w h (by omega) htn ht).mono ?_
    rintro e w' ⟨rfl, hB⟩
    exact ⟨⟨_, rfl⟩, hB.is_ext⟩
  · refine (remov_no M T lab r t w h hr).mono ?_
    rintro e w' ⟨rfl, rfl⟩
    exact ⟨⟨0, rfl⟩, (Below.rf _).is_ext⟩
theorem do_remov (A B C D : Int) (ao : Option Addr) (n cap : Nat) (lab : Nat → Nat) (d k : Nat) (T : TabS) (w : World) (h : Desk w lab d k (some T)) (hCm : C ≤ 9223372036854775807) : Calls Tryz.prog 6 #[.pointer (some ⟨d, 0, none⟩), .agg #[.int .i64 (13), .int .i64 (A), .int .i64 (B), .int .i64 (C), .int .i64 (D), .slice ao n cap]] w (doPost lab d k (fun c => c = 0) (some T) w) := by
  have HX := hid hCm
  clear hCm
  obtain ⟨⟨tv, N, S, hd, hm, hcn, ht⟩, hl⟩ := h
  obtain ⟨M, rfl, hT, hC⟩ := ht
  have HD := hid (hd.more (Nat.le_succ k))
  have HM := hid hm
  have HCN := hid hcn
  have HT := hid hT
  have HC := hid hC
  have HL := hid hl
  have c0 := hd.c0
  have ld := hd.lt
  have lF := hl (w.heap.size + 1) (by omega)
  clear hd hm hcn hT hC hl
  go_enter Tryz.func6, Tryz.ntmps6
  go_wp2_with (first | (go_at_call 42; refine (remov_all M T lab A C _ (HT.out.below (by (repeat (first | with_reducible exact Below.rf _ | with_reducible exact World.below_ext _ _ | with_reducible refine Below.ex ?_ _ | with_reducible refine Below.al ?_ _ | with_reducible refine Below.setCell ?_ (by simp) _ | with_reducible refine Below.drew ?_)))) HX.out).mono ?_; rintro e w' ⟨⟨rn, rfl⟩, z1, rfl⟩) | (go_at_call 15; refine (ok_any _ ⟨_, _, _, rfl⟩ _).mono ?_; rintro e w' ⟨rfl, z2, rfl⟩))
  refine bodyPost_ret (v := .agg #[.int .u8 0, .slice (some ⟨w.heap.size + 1 + 1 + z1.heap.size, 0, none⟩) 1 1]) (by simp [results, Tryz.results6, go_sem, ↓IntWalk.iteOmega, *]) rfl ?_
  exact do_fin (w1 := World.ext _ _) (w5 := World.ext _ _) (A := tabL) (Cd := fun c => c = 0) HD.out HM.out HCN.out HL.out (by (repeat (first | with_reducible exact Below.rf _ | with_reducible exact World.below_ext _ _ | with_reducible refine Below.ex ?_ _ | with_reducible refine Below.al ?_ _ | with_reducible refine Below.setCell ?_ (by simp) _ | with_reducible refine Below.drew ?_))) (by simp <;> omega) (KeptL.refl lab _ _) (fun x hx => hx) (fun _ _ => rfl) (HT.out.below (by (repeat (first | with_reducible exact Below.rf _ | with_reducible exact World.below_ext _ _ | with_reducible refine Below.ex ?_ _ | with_reducible refine Below.al ?_ _ | with_reducible refine Below.setCell ?_ (by simp) _ | with_reducible refine Below.drew ?_)))) HC.out rfl (KeptBut.refl _ _) rfl
end Go.Proofs.Qxb6500717aGreat
