/-
  'do': the rest of the steps on the table.
-/
import Derived.Test.Qxb6500717aGreatDo1
namespace Go.Proofs.Qxb6500717aGreat
open Go.RowKit
set_option linter.unusedSimpArgs false
set_option linter.unusedVariables false
set_option maxRecDepth 20000
set_option maxHeartbeats 4000000

theorem do_path (A B C D : Int) (ao : Option Addr) (n cap : Nat) (lab : Nat → Nat) (d k : Nat) (T : TabS) (w : World) (h : Desk w lab d k (some T)) (cs : List Int) (hn : cs.length = n) (hn2 : n ≤ 100000) (hst : -9223372036854775808 ≤ C ∧ C ≤ 9223372036854775807)
    (hrow : ∀ (i : Nat) (c : Int), cs[i]? = some c → ∃ b o, ao = some ⟨b, o, none⟩ ∧ b < w.heap.size ∧ lab b = 0 ∧ w.cell? ⟨b, o + i, none⟩ = some (.int .i64 (c))) :
    Calls Tryz.prog 6 #[.pointer (some ⟨d, 0, none⟩), .agg #[.int .i64 (3), .int .i64 (A), .int .i64 (B), .int .i64 (C), .int .i64 (D), .slice ao n cap]] w (doPost lab d k (fun c => c = (TabS.path A C cs 0 T).1) (some (TabS.path A C cs 0 T).2.2) w) := by
  have HN := hid hn
  have HN2 := hid hn2
  have HST := hid hst
  have HROW := hid hrow
  clear hn hn2 hst hrow
  obtain ⟨⟨tv, N, S, hd, hm, hcn, ht⟩, hl⟩ := h
  obtain ⟨M, rfl, hT, hC⟩ := ht
  have HD := hid (hd.more (Nat.le_succ k))
  have HM := hid hm
  have HCN := hid hcn
  have HT := hid hT
  have HC := hid hC
  have HL := hid hl
  have c0 := hd.c0
  have ld := hd.lt
  have lF := hl (w.heap.size + 1) (by omega)
  clear hd hm hcn hT hC hl
  go_enter Tryz.func6, Tryz.ntmps6
  go_wp2_with (go_at_call 28; refine hold ?_)
  unfold Hid
  have hrow1 : ∀ w1, Below w.heap.size w w1 → ∀ (i : Nat) (c : Int), cs[i]? = some c → ∃ b o, ao = some ⟨b, o, none⟩ ∧ b < w1.heap.size ∧ clT lab b = 0 ∧ w1.cell? ⟨b, o + i, none⟩ = some (.int .i64 (c)) := by
    intro w1 hB i c hi
    obtain ⟨b, o, h1, h2, h3, h4⟩ := HROW.out i c hi
    refine ⟨b, o, h1, by have := hB.size; omega, ?_, by rw [World.cell?_of_block (hB.block b h2)]; exact h4⟩
    unfold clT
    rw [h3]; simp
  refine (path_any M T (clT lab) A C ao n cap cs _ (HT.out.clamp.below (by (repeat (first | with_reducible exact Below.rf _ | with_reducible exact World.below_ext _ _ | with_reducible refine Below.ex ?_ _ | with_reducible refine Below.al ?_ _ | with_reducible refine Below.setCell ?_ (by simp) _ | with_reducible refine Below.drew ?_)))) HC.out HN.out HN2.out HST.out (hrow1 _ (by (repeat (first | with_reducible exact Below.rf _ | with_reducible exact World.below_ext _ _ | with_reducible refine Below.ex ?_ _ | with_reducible refine Below.al ?_ _ | with_reducible refine Below.setCell ?_ (by simp) _ | with_reducible refine Below.drew ?_))))).mono ?_
  rintro e w5 ⟨rfl, hT5, hC5, hk5⟩
  replace hk5 := hk5.unclamp (by omega)
  have f0 := hk5.cell (b := w.heap.size + 1) 0 (by simp) (by rw [lF]; simp [tabL])
  have f1 := hk5.cell (b := w.heap.size + 1) 1 (by simp) (by rw [lF]; simp [tabL])
  have f2 := hk5.frozen (b := w.heap.size + 1) 0 (by simp) (by rw [lF]; simp [tabL])
  have f3 := hk5.frozen (b := w.heap.size + 1) 1 (by simp) (by rw [lF]; simp [tabL])
  simp [go_sem, ↓IntWalk.iteOmega] at f0 f1 f2 f3
  have s5 := hk5.size
  simp at s5
  have FIN := hid (fun w6 v hv hkb => do_fin (w6 := w6) (v := v) (hv := hv) (Cd := fun c => c = (TabS.path A C cs 0 T).1) HD.out HM.out HCN.out HL.out (by (repeat (first | with_reducible exact Below.rf _ | with_reducible exact World.below_ext _ _ | with_reducible refine Below.ex ?_ _ | with_reducible refine Below.al ?_ _ | with_reducible refine Below.setCell ?_ (by simp) _ | with_reducible refine Below.drew ?_))) (by simp) hk5 (fun x hx => hx) (fun _ _ => rfl) hT5.unclamp hC5 rfl hkb rfl)
  clear hT5 hk5 c0 hrow1 hC5
  go_wp2
  refine bodyPost_ret (v := .agg #[.int .u8 (TabS.path A C cs 0 T).1, .slice (some ⟨w5.heap.size, 0, none⟩) 1 1]) (by simp [results, Tryz.results6, go_sem, ↓IntWalk.iteOmega, *]) rfl ?_
  exact FIN.out _ _ rfl (by (repeat (first | with_reducible exact KeptBut.refl _ _ | with_reducible refine KeptBut.ex ?_ _ | with_reducible refine KeptBut.al ?_ _ | with_reducible refine KeptBut.set' ?_ _ _)))

/-- A truncation, whatever the robot. -/
def TabS.cutT (T : TabS) (r t : Int) : Int × TabS := if 0 ≤ r ∧ r < T.nr then (0, (T.trunc r.toNat (max t (T.base : Int)).toNat).2) else (2, T)
def cutPost (lab : Nat → Nat) (M : TabM) (x : Int × TabS) (w : World) (e : Ending) (w' : World) : Prop :=
  ∃ (M' : TabM) (n : Nat), e = .returned (.tuple #[.int .i64 (n), .int .u8 x.1]) ∧ TAt w' lab M' x.2 ∧ Con x.2 ∧ M'.t = M.t ∧ KeptL lab tabL w w'
theorem trunc_all (M : TabM) (T : TabS) (lab : Nat → Nat) (r t : Int) (w : World) (h : TAt w lab M T) (hc : Con T) (ht : t ≤ 9223372036854775807) : Calls Tryz.prog 32 #[.pointer (some ⟨M.t, 0, none⟩), .int .i64 (r), .int .i64 (t)] w (cutPost lab M (T.cutT r t) w) := by
  have hnr := h.bd.nr
  by_cases hr : 0 ≤ r ∧ r < T.nr
  · obtain ⟨rn, rfl⟩ := Int.eq_ofNat_of_zero_le hr.1
    refine (trunc_any M T lab rn (max t (T.base : Int)).toNat t w h hc (by omega) (by omega) ht).mono ?_
    rintro e w' ⟨M', rfl, h1, h2, h3, h4⟩
    refine ⟨M', (T.trunc rn (max t (T.base : Int)).toNat).1, ?_, ?_⟩ <;> rw [show T.cutT rn t = (0, (T.trunc rn (max t (T.base : Int)).toNat).2) by simp only [TabS.cutT]; rw [if_pos hr]; rfl]
    exact ⟨h1, h2, h3, h4.mono (fun x hx => by unfold tabL; omega)⟩
  · refine (trunc_no M T lab r t w h hr).mono ?_
    rintro e w' ⟨rfl, rfl⟩
    refine ⟨M, 0, ?_, ?_⟩ <;> rw [show T.cutT r t = (2, T) by simp only [TabS.cutT]; rw [if_neg hr]]
    · rfl
    · exact ⟨h, hc, rfl, KeptL.refl _ _ _⟩
theorem release_all (M : TabM) (T : TabS) (lab : Nat → Nat) (r : Int) (w : World) (h : TAt w lab M T) (hc : Con T) : Calls Tryz.prog 31 #[.pointer (some ⟨M.t, 0, none⟩), .int .i64 (r)] w (cutPost lab M (T.cutT r T.base) w) := by
  have hnr := h.bd.nr
  by_cases hr : 0 ≤ r ∧ r < T.nr
  · obtain ⟨rn, rfl⟩ := Int.eq_ofNat_of_zero_le hr.1
    refine (release_any M T lab rn w h hc (by omega)).mono ?_
    rintro e w' ⟨M', rfl, h1, h2, h3, h4⟩
    refine ⟨M', (T.trunc rn T.base).1, ?_, ?_⟩ <;> rw [show T.cutT rn T.base = (0, (T.trunc rn T.base).2) by simp only [TabS.cutT]; rw [if_pos hr, show (max (T.base : Int) T.base).toNat = T.base by omega]; rfl]
    exact ⟨h1, h2, h3, h4.mono (fun x hx => by unfold tabL; omega)⟩
  · refine (release_no M T lab r w h hr).mono ?_
    rintro e w' ⟨rfl, rfl⟩
    refine ⟨M, 0, ?_, ?_⟩ <;> rw [show T.cutT r T.base = (2, T) by simp only [TabS.cutT]; rw [if_neg hr]]
    · rfl
    · exact ⟨h, hc, rfl, KeptL.refl _ _ _⟩

theorem do_release (A B C D : Int) (ao : Option Addr) (n cap : Nat) (lab : Nat → Nat) (d k : Nat) (T : TabS) (w : World) (h : Desk w lab d k (some T)) : Calls Tryz.prog 6 #[.pointer (some ⟨d, 0, none⟩), .agg #[.int .i64 (5), .int .i64 (A), .int .i64 (B), .int .i64 (C), .int .i64 (D), .slice ao n cap]] w (doPost lab d k (fun c => c = (T.cutT A T.base).1) (some (T.cutT A T.base).2) w) := by
  obtain ⟨⟨tv, N, S, hd, hm, hcn, ht⟩, hl⟩ := h
  obtain ⟨M, rfl, hT, hC⟩ := ht
  have HD := hid (hd.more (Nat.le_succ k))
  have HM := hid hm
  have HCN := hid hcn
  have HT := hid hT
  have HC := hid hC
  have HL := hid hl
  have c0 := hd.c0
  have ld := hd.lt
  have lF := hl (w.heap.size + 1) (by omega)
  clear hd hm hcn hT hC hl
  go_enter Tryz.func6, Tryz.ntmps6
  go_wp2_with (go_at_call 31; refine hold ?_)
  unfold Hid
  refine (release_all M T lab A _ (HT.out.below (by (repeat (first | with_reducible exact Below.rf _ | with_reducible exact World.below_ext _ _ | with_reducible refine Below.ex ?_ _ | with_reducible refine Below.al ?_ _ | with_reducible refine Below.setCell ?_ (by simp) _ | with_reducible refine Below.drew ?_)))) HC.out).mono ?_
  rintro e w5 ⟨M', rn, rfl, hT5, hC5, hM5, hk5⟩
  have f0 := hk5.cell (b := w.heap.size + 1) 0 (by simp) (by rw [lF]; simp [tabL])
  have f1 := hk5.cell (b := w.heap.size + 1) 1 (by simp) (by rw [lF]; simp [tabL])
  have f2 := hk5.frozen (b := w.heap.size + 1) 0 (by simp) (by rw [lF]; simp [tabL])
  have f3 := hk5.frozen (b := w.heap.size + 1) 1 (by simp) (by rw [lF]; simp [tabL])
  simp [go_sem, ↓IntWalk.iteOmega] at f0 f1 f2 f3
  have s5 := hk5.size
  simp at s5
  have FIN := hid (fun w6 v hv hkb => do_fin (w6 := w6) (v := v) (hv := hv) (Cd := fun c => c = (T.cutT A T.base).1) HD.out HM.out HCN.out HL.out (by (repeat (first | with_reducible exact Below.rf _ | with_reducible exact World.below_ext _ _ | with_reducible refine Below.ex ?_ _ | with_reducible refine Below.al ?_ _ | with_reducible refine Below.setCell ?_ (by simp) _ | with_reducible refine Below.drew ?_))) (by simp) hk5 (fun x hx => hx) (fun _ _ => rfl) hT5 hC5 hM5 hkb rfl)
  clear hT5 hk5 c0 hC5 hM5
  go_wp2_with (go_at_call 30; refine (removed_any _ _ _).mono ?_; rintro e w' ⟨⟨ao2, n2, cap2, rfl⟩, z2, rfl⟩)
  refine bodyPost_ret (v := .agg #[.int .u8 (T.cutT A T.base).1, .slice ao2 n2 cap2]) (by simp [results, Tryz.results6, go_sem, ↓IntWalk.iteOmega, *]) rfl ?_
  exact FIN.out _ _ rfl (by (repeat (first | with_reducible exact KeptBut.refl _ _ | with_reducible refine KeptBut.ex ?_ _ | with_reducible refine KeptBut.al ?_ _ | with_reducible refine KeptBut.set' ?_ _ _)))
theorem do_trunc (A B C D : Int) (ao : Option Addr) (n cap : Nat) (lab : Nat → Nat) (d k : Nat) (T : TabS) (w : World) (h : Desk w lab d k (some T)) (hCm : C ≤ 9223372036854775807) : Calls Tryz.prog 6 #[.pointer (some ⟨d, 0, none⟩), .agg #[.int .i64 (6), .int .i64 (A), .int .i64 (B), .int .i64 (C), .int .i64 (D), .slice ao n cap]] w (doPost lab d k (fun c => c = (T.cutT A C).1) (some (T.cutT A C).2) w) := by
  have HX := hid hCm
  clear hCm
  obtain ⟨⟨tv, N, S, hd, hm, hcn, ht⟩, hl⟩ := h
  obtain ⟨M, rfl, hT, hC⟩ := ht
  have HD := hid (hd.more (Nat.le_succ k))
  have HM := hid hm
  have HCN := hid hcn
  have HT := hid hT
  have HC := hid hC
  have HL := hid hl
  have c0 := hd.c0
  have ld := hd.lt
  have lF := hl (w.heap.size + 1) (by omega)
  clear hd hm hcn hT hC hl
  go_enter Tryz.func6, Tryz.ntmps6
  go_wp2_with (go_at_call 32; refine hold ?_)
  unfold Hid
  refine (trunc_all M T lab A C _ (HT.out.below (by (repeat (first | with_reducible exact Below.rf _ | with_reducible exact World.below_ext _ _ | with_reducible refine Below.ex ?_ _ | with_reducible refine Below.al ?_ _ | with_reducible refine Below.setCell ?_ (by simp) _ | with_reducible refine Below.drew ?_)))) HC.out HX.out).mono ?_
  rintro e w5 ⟨M', rn, rfl, hT5, hC5, hM5, hk5⟩
  have f0 := hk5.cell (b := w.heap.size + 1) 0 (by simp) (by rw [lF]; simp [tabL])
  have f1 := hk5.cell (b := w.heap.size + 1) 1 (by simp) (by rw [lF]; simp [tabL])
  have f2 := hk5.frozen (b := w.heap.size + 1) 0 (by simp) (by rw [lF]; simp [tabL])
  have f3 := hk5.frozen (b := w.heap.size + 1) 1 (by simp) (by rw [lF]; simp [tabL])
  simp [go_sem, ↓IntWalk.iteOmega] at f0 f1 f2 f3
  have s5 := hk5.size
  simp at s5
  have FIN := hid (fun w6 v hv hkb => do_fin (w6 := w6) (v := v) (hv := hv) (Cd := fun c => c = (T.cutT A C).1) HD.out HM.out HCN.out HL.out (by (repeat (first | with_reducible exact Below.rf _ | with_reducible exact World.below_ext _ _ | with_reducible refine Below.ex ?_ _ | with_reducible refine Below.al ?_ _ | with_reducible refine Below.setCell ?_ (by simp) _ | with_reducible refine Below.drew ?_))) (by simp) hk5 (fun x hx => hx) (fun _ _ => rfl) hT5 hC5 hM5 hkb rfl)
  clear hT5 hk5 c0 hC5 hM5
  go_wp2_with (go_at_call 30; refine (removed_any _ _ _).mono ?_; rintro e w' ⟨⟨ao2, n2, cap2, rfl⟩, z2, rfl⟩)
  refine bodyPost_ret (v := .agg #[.int .u8 (T.cutT A C).1, .slice ao2 n2 cap2]) (by simp [results, Tryz.results6, go_sem, ↓IntWalk.iteOmega, *]) rfl ?_
  exact FIN.out _ _ rfl (by (repeat (first | with_reducible exact KeptBut.refl _ _ | with_reducible refine KeptBut.ex ?_ _ | with_reducible refine KeptBut.al ?_ _ | with_reducible refine KeptBut.set' ?_ _ _)))

/-- No such step. -/
theorem do_else (K A B C D : Int) (ao : Option Addr) (n cap : Nat) (lab : Nat → Nat) (d k : Nat) (T : TabS) (w : World) (h : Desk w lab d k (some T)) (hK : K < 0 ∨ 23 < K) : Calls Tryz.prog 6 #[.pointer (some ⟨d, 0, none⟩), .agg #[.int .i64 (K), .int .i64 (A), .int .i64 (B), .int .i64 (C), .int .i64 (D), .slice ao n cap]] w (doPost lab d k (fun c => c = 2) (some T) w) := by
  obtain ⟨⟨tv, N, S, hd, hm, hcn, ht⟩, hl⟩ := h
  obtain ⟨M, rfl, hT, hC⟩ := ht
  have HD := hid (hd.more (Nat.le_succ k))
  have HM := hid hm
  have HCN := hid hcn
  have HT := hid hT
  have HC := hid hC
  have HL := hid hl
  have c0 := hd.c0
  have ld := hd.lt
  have lF := hl (w.heap.size + 1) (by omega)
  clear hd hm hcn hT hC hl
  have k0 : (K == 0) = false := by simp; omega
  have k1 : (K == 1) = false := by simp; omega
  have k2 : (K == 2) = false := by simp; omega
  have k3 : (K == 3) = false := by simp; omega
  have k4 : (K == 4) = false := by simp; omega
  have k5 : (K == 5) = false := by simp; omega
  have k6 : (K == 6) = false := by simp; omega
  have k7 : (K == 7) = false := by simp; omega
  have k8 : (K == 8) = false := by simp; omega
  have k9 : (K == 9) = false := by simp; omega
  have k10 : (K == 10) = false := by simp; omega
  have k11 : (K == 11) = false := by simp; omega
  have k12 : (K == 12) = false := by simp; omega
  have k13 : (K == 13) = false := by simp; omega
  have k14 : (K == 14) = false := by simp; omega
  have k15 : (K == 15) = false := by simp; omega
  have k16 : (K == 16) = false := by simp; omega
  have k17 : (K == 17) = false := by simp; omega
  have k18 : (K == 18) = false := by simp; omega
  have k19 : (K == 19) = false := by simp; omega
  have k20 : (K == 20) = false := by simp; omega
  have k21 : (K == 21) = false := by simp; omega
  have k22 : (K == 22) = false := by simp; omega
  have k23 : (K == 23) = false := by simp; omega
  clear hK
  go_enter Tryz.func6, Tryz.ntmps6
  go_wp2
  refine bodyPost_ret (v := .agg #[.int .u8 2, .slice none 0 0]) (by simp [results, Tryz.results6, go_sem, ↓IntWalk.iteOmega, *]) rfl ?_
  exact do_fin (w1 := World.alloc _ _) (w5 := World.alloc _ _) (A := tabL) (Cd := fun c => c = 2) HD.out HM.out HCN.out HL.out (by (repeat (first | with_reducible exact Below.rf _ | with_reducible exact World.below_ext _ _ | with_reducible refine Below.ex ?_ _ | with_reducible refine Below.al ?_ _ | with_reducible refine Below.setCell ?_ (by simp) _ | with_reducible refine Below.drew ?_))) (by simp <;> omega) (KeptL.refl lab _ _) (fun x hx => hx) (fun _ _ => rfl) (HT.out.below (by (repeat (first | with_reducible exact Below.rf _ | with_reducible exact World.below_ext _ _ | with_reducible refine Below.ex ?_ _ | with_reducible refine Below.al ?_ _ | with_reducible refine Below.setCell ?_ (by simp) _ | with_reducible refine Below.drew ?_)))) HC.out rfl (KeptBut.refl _ _) rfl
end Go.Proofs.Qxb6500717aGreat
