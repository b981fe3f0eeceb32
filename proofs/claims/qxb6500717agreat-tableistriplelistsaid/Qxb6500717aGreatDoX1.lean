/-
  'do', exactly: the steps on the table.
-/
import Derived.Test.Qxb6500717aGreatDoX0
namespace Go.Proofs.Qxb6500717aGreat
open Go.RowKit
set_option linter.unusedSimpArgs false
set_option linter.unusedVariables false
set_option maxRecDepth 20000
set_option maxHeartbeats 4000000

theorem dx_adv (A B C D : Int) (ao : Option Addr) (n cap : Nat) (lab : Nat → Nat) (d k : Nat) (Q : DkS) (T : TabS) (hO : Q.O = some T) (w : World) (h : DeskX w lab d k Q) : Calls Tryz.prog 6 #[.pointer (some ⟨d, 0, none⟩), .agg #[.int .i64 (1), .int .i64 (A), .int .i64 (B), .int .i64 (C), .int .i64 (D), .slice ao n cap]] w (doXPost lab d k (((T.advC C, []), { Q with O := some (T.advT C) })) w) := by
  obtain ⟨⟨tv, N, hd, hm, ht⟩, hl, hp, hbk⟩ := h
  rw [hO] at ht
  obtain ⟨M, rfl, hT, hC⟩ := ht
  have HD := hid hd
  have HM := hid hm
  have HT := hid hT
  have HC := hid hC
  have HL := hid hl
  have HP := hid hp
  have HBK := hid hbk
  have HQ := hid hO
  have c0 := hd.c0
  have ld := hd.lt
  have lF := hl (w.heap.size + 1) (by omega)
  clear hd hm hT hC hl hp hbk hO
  go_enter Tryz.func6, Tryz.ntmps6
  go_wp2_with (go_at_call 26; refine hold ?_)
  unfold Hid
  refine (adv_any M T lab C _ (HT.out.below (by (repeat (first | with_reducible exact Below.rf _ | with_reducible exact World.below_ext _ _ | with_reducible refine Below.ex ?_ _ | with_reducible refine Below.al ?_ _ | with_reducible refine Below.setCell ?_ (by simp) _ | with_reducible refine Below.drew ?_)))) HC.out).mono ?_
  rintro e w5 ⟨M', rfl, hT5, hC5, hM5, hk5⟩
  have f0 := hk5.cell (b := w.heap.size + 1) 0 (by simp) (by rw [lF]; simp [tabL])
  have f1 := hk5.cell (b := w.heap.size + 1) 1 (by simp) (by rw [lF]; simp [tabL])
  have f2 := hk5.frozen (b := w.heap.size + 1) 0 (by simp) (by rw [lF]; simp [tabL])
  have f3 := hk5.frozen (b := w.heap.size + 1) 1 (by simp) (by rw [lF]; simp [tabL])
  simp [go_sem, ↓IntWalk.iteOmega] at f0 f1 f2 f3
  have s5 := hk5.size
  simp at s5
  have FIN := hid ((fun w6 v vals hv hkb => doX_fin (w6 := w6) (v := v) (vals := vals) (c := T.advC C) (D' := { Q with O := some (T.advT C) }) HL.out (by (repeat (first | with_reducible exact Below.rf _ | with_reducible exact World.below_ext _ _ | with_reducible refine Below.ex ?_ _ | with_reducible refine Below.al ?_ _ | with_reducible refine Below.setCell ?_ (by simp) _ | with_reducible refine Below.drew ?_))) (by simp) hk5 (fun x hx => by unfold tabL at hx; unfold tagL; omega) (fun _ _ => rfl) (HD.out.carry (by (repeat (first | with_reducible exact Below.rf _ | with_reducible exact World.below_ext _ _ | with_reducible refine Below.ex ?_ _ | with_reducible refine Below.al ?_ _ | with_reducible refine Below.setCell ?_ (by simp) _ | with_reducible refine Below.drew ?_))) hk5 (fun _ _ => rfl) (by simp [tabL]) (by simp [tabL])) (HM.out.carry (by (repeat (first | with_reducible exact Below.rf _ | with_reducible exact World.below_ext _ _ | with_reducible refine Below.ex ?_ _ | with_reducible refine Below.al ?_ _ | with_reducible refine Below.setCell ?_ (by simp) _ | with_reducible refine Below.drew ?_))) hk5 (fun _ _ => rfl) (by simp [tabL]) (by simp [tabL]) (by simp [tabL])) ⟨_, (by rw [hM5]), hT5, hC5⟩ hkb HP.out ⟨Nat.le_succ_of_le HBK.out.1, Nat.le_succ_of_le HBK.out.2.1, Nat.le_succ_of_le HBK.out.2.2⟩ hv))
  clear hT5 hC5 hM5 hk5 c0
  go_wp2
  refine bodyPost_ret (v := .agg #[.int .u8 (T.advC C), .slice none 0 0]) (by simp [results, Tryz.results6, go_sem, ↓IntWalk.iteOmega, *]) rfl ?_
  exact FIN.out _ _ _ (IntsAt.nil _ _) (by (repeat (first | with_reducible exact KeptBut.refl _ _ | with_reducible refine KeptBut.ex ?_ _ | with_reducible refine KeptBut.al ?_ _ | with_reducible refine KeptBut.set' ?_ _ _)))
theorem dx_reserve (A B C D : Int) (ao : Option Addr) (n cap : Nat) (lab : Nat → Nat) (d k : Nat) (Q : DkS) (T : TabS) (hO : Q.O = some T) (w : World) (h : DeskX w lab d k Q) : Calls Tryz.prog 6 #[.pointer (some ⟨d, 0, none⟩), .agg #[.int .i64 (2), .int .i64 (A), .int .i64 (B), .int .i64 (C), .int .i64 (D), .slice ao n cap]] w (doXPost lab d k ((((T.reserve A B C).1, []), { Q with O := some (T.reserve A B C).2 })) w) := by
  obtain ⟨⟨tv, N, hd, hm, ht⟩, hl, hp, hbk⟩ := h
  rw [hO] at ht
  obtain ⟨M, rfl, hT, hC⟩ := ht
  have HD := hid hd
  have HM := hid hm
  have HT := hid hT
  have HC := hid hC
  have HL := hid hl
  have HP := hid hp
  have HBK := hid hbk
  have HQ := hid hO
  have c0 := hd.c0
  have ld := hd.lt
  have lF := hl (w.heap.size + 1) (by omega)
  clear hd hm hT hC hl hp hbk hO
  go_enter Tryz.func6, Tryz.ntmps6
  go_wp2_with (go_at_call 27; refine hold ?_)
  unfold Hid
  refine (reserve_any M T (clT lab) A B C _ (HT.out.clamp.below (by (repeat (first | with_reducible exact Below.rf _ | with_reducible exact World.below_ext _ _ | with_reducible refine Below.ex ?_ _ | with_reducible refine Below.al ?_ _ | with_reducible refine Below.setCell ?_ (by simp) _ | with_reducible refine Below.drew ?_))))).mono ?_
  rintro e w5 ⟨rfl, hT5, hk5⟩
  replace hk5 := hk5.unclamp (by omega)
  have f0 := hk5.cell (b := w.heap.size + 1) 0 (by simp) (by rw [lF]; simp [tabL])
  have f1 := hk5.cell (b := w.heap.size + 1) 1 (by simp) (by rw [lF]; simp [tabL])
  have f2 := hk5.frozen (b := w.heap.size + 1) 0 (by simp) (by rw [lF]; simp [tabL])
  have f3 := hk5.frozen (b := w.heap.size + 1) 1 (by simp) (by rw [lF]; simp [tabL])
  simp [go_sem, ↓IntWalk.iteOmega] at f0 f1 f2 f3
  have s5 := hk5.size
  simp at s5
  have FIN := hid ((fun w6 v vals hv hkb => doX_fin (w6 := w6) (v := v) (vals := vals) (c := (T.reserve A B C).1) (D' := { Q with O := some (T.reserve A B C).2 }) HL.out (by (repeat (first | with_reducible exact Below.rf _ | with_reducible exact World.below_ext _ _ | with_reducible refine Below.ex ?_ _ | with_reducible refine Below.al ?_ _ | with_reducible refine Below.setCell ?_ (by simp) _ | with_reducible refine Below.drew ?_))) (by simp) hk5 (fun x hx => by unfold tabL at hx; unfold tagL; omega) (fun _ _ => rfl) (HD.out.carry (by (repeat (first | with_reducible exact Below.rf _ | with_reducible exact World.below_ext _ _ | with_reducible refine Below.ex ?_ _ | with_reducible refine Below.al ?_ _ | with_reducible refine Below.setCell ?_ (by simp) _ | with_reducible refine Below.drew ?_))) hk5 (fun _ _ => rfl) (by simp [tabL]) (by simp [tabL])) (HM.out.carry (by (repeat (first | with_reducible exact Below.rf _ | with_reducible exact World.below_ext _ _ | with_reducible refine Below.ex ?_ _ | with_reducible refine Below.al ?_ _ | with_reducible refine Below.setCell ?_ (by simp) _ | with_reducible refine Below.drew ?_))) hk5 (fun _ _ => rfl) (by simp [tabL]) (by simp [tabL]) (by simp [tabL])) ⟨_, rfl, hT5.unclamp, (HC.out.reserve HT.out.bd A B C)⟩ hkb HP.out ⟨Nat.le_succ_of_le HBK.out.1, Nat.le_succ_of_le HBK.out.2.1, Nat.le_succ_of_le HBK.out.2.2⟩ hv))
  clear hT5 hk5 c0
  go_wp2
  refine bodyPost_ret (v := .agg #[.int .u8 (T.reserve A B C).1, .slice none 0 0]) (by simp [results, Tryz.results6, go_sem, ↓IntWalk.iteOmega, *]) rfl ?_
  exact FIN.out _ _ _ (IntsAt.nil _ _) (by (repeat (first | with_reducible exact KeptBut.refl _ _ | with_reducible refine KeptBut.ex ?_ _ | with_reducible refine KeptBut.al ?_ _ | with_reducible refine KeptBut.set' ?_ _ _)))
theorem dx_stand (A B C D : Int) (ao : Option Addr) (n cap : Nat) (lab : Nat → Nat) (d k : Nat) (Q : DkS) (T : TabS) (hO : Q.O = some T) (w : World) (h : DeskX w lab d k Q) : Calls Tryz.prog 6 #[.pointer (some ⟨d, 0, none⟩), .agg #[.int .i64 (4), .int .i64 (A), .int .i64 (B), .int .i64 (C), .int .i64 (D), .slice ao n cap]] w (doXPost lab d k ((((T.stand A B C).1, []), { Q with O := some (T.stand A B C).2 })) w) := by
  obtain ⟨⟨tv, N, hd, hm, ht⟩, hl, hp, hbk⟩ := h
  rw [hO] at ht
  obtain ⟨M, rfl, hT, hC⟩ := ht
  have HD := hid hd
  have HM := hid hm
  have HT := hid hT
  have HC := hid hC
  have HL := hid hl
  have HP := hid hp
  have HBK := hid hbk
  have HQ := hid hO
  have c0 := hd.c0
  have ld := hd.lt
  have lF := hl (w.heap.size + 1) (by omega)
  clear hd hm hT hC hl hp hbk hO
  go_enter Tryz.func6, Tryz.ntmps6
  go_wp2_with (go_at_call 29; refine hold ?_)
  unfold Hid
  refine (stand_any M T (clT lab) A B C _ (HT.out.clamp.below (by (repeat (first | with_reducible exact Below.rf _ | with_reducible exact World.below_ext _ _ | with_reducible refine Below.ex ?_ _ | with_reducible refine Below.al ?_ _ | with_reducible refine Below.setCell ?_ (by simp) _ | with_reducible refine Below.drew ?_)))) HC.out).mono ?_
  rintro e w5 ⟨lab', M', rfl, hT5, hM5, hlab, hk5⟩
  replace hk5 := hk5.unclamp (by omega)
  have f0 := hk5.cell (b := w.heap.size + 1) 0 (by simp) (by rw [lF]; simp [tabL])
  have f1 := hk5.cell (b := w.heap.size + 1) 1 (by simp) (by rw [lF]; simp [tabL])
  have f2 := hk5.frozen (b := w.heap.size + 1) 0 (by simp) (by rw [lF]; simp [tabL])
  have f3 := hk5.frozen (b := w.heap.size + 1) 1 (by simp) (by rw [lF]; simp [tabL])
  simp [go_sem, ↓IntWalk.iteOmega] at f0 f1 f2 f3
  have s5 := hk5.size
  simp at s5
  have hs5 := hk5.size
  have FIN := hid ((fun w6 v vals hv hkb => doX_fin (w6 := w6) (v := v) (vals := vals) (c := (T.stand A B C).1) (D' := { Q with O := some (T.stand A B C).2 }) HL.out (by (repeat (first | with_reducible exact Below.rf _ | with_reducible exact World.below_ext _ _ | with_reducible refine Below.ex ?_ _ | with_reducible refine Below.al ?_ _ | with_reducible refine Below.setCell ?_ (by simp) _ | with_reducible refine Below.drew ?_))) (by simp) hk5 (fun x hx => by unfold tabL at hx; unfold tagL; omega) (fun j hj => if_pos hj) (HD.out.carry (by (repeat (first | with_reducible exact Below.rf _ | with_reducible exact World.below_ext _ _ | with_reducible refine Below.ex ?_ _ | with_reducible refine Below.al ?_ _ | with_reducible refine Below.setCell ?_ (by simp) _ | with_reducible refine Below.drew ?_))) hk5 (fun j hj => if_pos hj) (by simp [tabL]) (by simp [tabL])) (HM.out.carry (by (repeat (first | with_reducible exact Below.rf _ | with_reducible exact World.below_ext _ _ | with_reducible refine Below.ex ?_ _ | with_reducible refine Below.al ?_ _ | with_reducible refine Below.setCell ?_ (by simp) _ | with_reducible refine Below.drew ?_))) hk5 (fun j hj => if_pos hj) (by simp [tabL]) (by simp [tabL]) (by simp [tabL])) ⟨_, (by rw [hM5]), (hT5.mix hlab), (HC.out.stand A B C)⟩ hkb HP.out ⟨Nat.le_succ_of_le HBK.out.1, Nat.le_succ_of_le HBK.out.2.1, Nat.le_succ_of_le HBK.out.2.2⟩ hv))
  clear hT5 hk5 hlab hM5 c0
  go_wp2
  refine bodyPost_ret (v := .agg #[.int .u8 (T.stand A B C).1, .slice none 0 0]) (by simp [results, Tryz.results6, go_sem, ↓IntWalk.iteOmega, *]) rfl ?_
  exact FIN.out _ _ _ (IntsAt.nil _ _) (by (repeat (first | with_reducible exact KeptBut.refl _ _ | with_reducible refine KeptBut.ex ?_ _ | with_reducible refine KeptBut.al ?_ _ | with_reducible refine KeptBut.set' ?_ _ _)))
theorem dx_path (A B C D : Int) (ao : Option Addr) (n cap : Nat) (lab : Nat → Nat) (d k : Nat) (Q : DkS) (T : TabS) (hO : Q.O = some T) (w : World) (h : DeskX w lab d k Q) (cs : List Int) (hn : cs.length = n) (hn2 : n ≤ 100000) (hst : -9223372036854775808 ≤ C ∧ C ≤ 9223372036854775807)
    (hrow : ∀ (i : Nat) (c : Int), cs[i]? = some c → ∃ b o, ao = some ⟨b, o, none⟩ ∧ b < w.heap.size ∧ lab b = 0 ∧ w.cell? ⟨b, o + i, none⟩ = some (.int .i64 (c))) :
    Calls Tryz.prog 6 #[.pointer (some ⟨d, 0, none⟩), .agg #[.int .i64 (3), .int .i64 (A), .int .i64 (B), .int .i64 (C), .int .i64 (D), .slice ao n cap]] w (doXPost lab d k (((TabS.path A C cs 0 T).1, [((TabS.path A C cs 0 T).2.1 : Int)]), { Q with O := some (TabS.path A C cs 0 T).2.2 }) w) := by
  have HN := hid hn
  have HN2 := hid hn2
  have HST := hid hst
  have HROW := hid hrow
  clear hn hn2 hst hrow
  obtain ⟨⟨tv, N, hd, hm, ht⟩, hl, hp, hbk⟩ := h
  rw [hO] at ht
  obtain ⟨M, rfl, hT, hC⟩ := ht
  have HD := hid hd
  have HM := hid hm
  have HT := hid hT
  have HC := hid hC
  have HL := hid hl
  have HP := hid hp
  have HBK := hid hbk
  have HQ := hid hO
  have c0 := hd.c0
  have ld := hd.lt
  have lF := hl (w.heap.size + 1) (by omega)
  clear hd hm hT hC hl hp hbk hO
  go_enter Tryz.func6, Tryz.ntmps6
  go_wp2_with (go_at_call 28; refine hold ?_)
  unfold Hid
  have hrow1 : ∀ w1, Below w.heap.size w w1 → ∀ (i : Nat) (c : Int), cs[i]? = some c → ∃ b o, ao = some ⟨b, o, none⟩ ∧ b < w1.heap.size ∧ clT lab b = 0 ∧ w1.cell? ⟨b, o + i, none⟩ = some (.int .i64 (c)) := by
    intro w1 hB i c hi
    obtain ⟨b, o, h1, h2, h3, h4⟩ := HROW.out i c hi
    refine ⟨b, o, h1, by have := hB.size; omega, ?_, by rw [World.cell?_of_block (hB.block b h2)]; exact h4⟩
    unfold clT
    rw [h3]; simp
  refine (path_any M T (clT lab) A C ao n cap cs _ (HT.out.clamp.below (by (repeat (first | with_reducible exact Below.rf _ | with_reducible exact World.below_ext _ _ | with_reducible refine Below.ex ?_ _ | with_reducible refine Below.al ?_ _ | with_reducible refine Below.setCell ?_ (by simp) _ | with_reducible refine Below.drew ?_)))) HC.out HN.out HN2.out HST.out (hrow1 _ (by (repeat (first | with_reducible exact Below.rf _ | with_reducible exact World.below_ext _ _ | with_reducible refine Below.ex ?_ _ | with_reducible refine Below.al ?_ _ | with_reducible refine Below.setCell ?_ (by simp) _ | with_reducible refine Below.drew ?_))))).mono ?_
  rintro e w5 ⟨rfl, hT5, hC5, hk5⟩
  replace hk5 := hk5.unclamp (by omega)
  have f0 := hk5.cell (b := w.heap.size + 1) 0 (by simp) (by rw [lF]; simp [tabL])
  have f1 := hk5.cell (b := w.heap.size + 1) 1 (by simp) (by rw [lF]; simp [tabL])
  have f2 := hk5.frozen (b := w.heap.size + 1) 0 (by simp) (by rw [lF]; simp [tabL])
  have f3 := hk5.frozen (b := w.heap.size + 1) 1 (by simp) (by rw [lF]; simp [tabL])
  simp [go_sem, ↓IntWalk.iteOmega] at f0 f1 f2 f3
  have s5 := hk5.size
  simp at s5
  have FIN := hid ((fun w6 v vals hv hkb => doX_fin (w6 := w6) (v := v) (vals := vals) (c := (TabS.path A C cs 0 T).1) (D' := { Q with O := some (TabS.path A C cs 0 T).2.2 }) HL.out (by (repeat (first | with_reducible exact Below.rf _ | with_reducible exact World.below_ext _ _ | with_reducible refine Below.ex ?_ _ | with_reducible refine Below.al ?_ _ | with_reducible refine Below.setCell ?_ (by simp) _ | with_reducible refine Below.drew ?_))) (by simp) hk5 (fun x hx => by unfold tabL at hx; unfold tagL; omega) (fun _ _ => rfl) (HD.out.carry (by (repeat (first | with_reducible exact Below.rf _ | with_reducible exact World.below_ext _ _ | with_reducible refine Below.ex ?_ _ | with_reducible refine Below.al ?_ _ | with_reducible refine Below.setCell ?_ (by simp) _ | with_reducible refine Below.drew ?_))) hk5 (fun _ _ => rfl) (by simp [tabL]) (by simp [tabL])) (HM.out.carry (by (repeat (first | with_reducible exact Below.rf _ | with_reducible exact World.below_ext _ _ | with_reducible refine Below.ex ?_ _ | with_reducible refine Below.al ?_ _ | with_reducible refine Below.setCell ?_ (by simp) _ | with_reducible refine Below.drew ?_))) hk5 (fun _ _ => rfl) (by simp [tabL]) (by simp [tabL]) (by simp [tabL])) ⟨_, rfl, hT5.unclamp, hC5⟩ hkb HP.out ⟨Nat.le_succ_of_le HBK.out.1, Nat.le_succ_of_le HBK.out.2.1, Nat.le_succ_of_le HBK.out.2.2⟩ hv))
  clear hT5 hk5 c0 hrow1 hC5
  go_wp2
  refine bodyPost_ret (v := .agg #[.int .u8 (TabS.path A C cs 0 T).1, .slice (some ⟨w5.heap.size, 0, none⟩) 1 1]) (by simp [results, Tryz.results6, go_sem, ↓IntWalk.iteOmega, *]) rfl ?_
  exact FIN.out _ _ _ (IntsAt.one (by first | omega | (simp <;> omega)) (by simp <;> omega) (by simp [go_sem, ↓IntWalk.iteOmega])) (by (repeat (first | with_reducible exact KeptBut.refl _ _ | with_reducible refine KeptBut.ex ?_ _ | with_reducible refine KeptBut.al ?_ _ | with_reducible refine KeptBut.set' ?_ _ _)))
end Go.Proofs.Qxb6500717aGreat
