/-
  The model's Step: a new table.
-/
import Derived.Deep.RegionHeld3
import Derived.Test.Qxb6500717aGreatSt3
namespace Go.Proofs.Qxb6500717aGreat
open Go.RowKit
set_option linter.unusedSimpArgs false
set_option linter.unusedVariables false
set_option maxRecDepth 20000
set_option maxHeartbeats 4000000

def MdS.init (S : MdS) (A B C : Int) : Int × MdS := if 1 ≤ A ∧ A ≤ 150 ∧ 1 ≤ B ∧ B ≤ 6 ∧ 1 ≤ C ∧ C ≤ 1536 then (0, ⟨true, A.toNat, B.toNat, C.toNat, 0, [], []⟩) else (2, S)
theorem MdX.init {w w' : World} {m : Nat} {S : MdS} {V : MV} (h : MdX w m S V) {A B C : Nat} (hb : A ≤ 150 ∧ B ≤ 6 ∧ C ≤ 1536) (hk : KeptBut m w w') (hf : ∀ i, i < 11 → w'.frozen? ⟨m, i, none⟩ = false) (hc : ∀ i, 7 ≤ i → i < 11 → w'.cell? ⟨m, i, none⟩ = w.cell? ⟨m, i, none⟩)
    (c0 : w'.cell? ⟨m, 0, none⟩ = some (.bool true)) (c1 : w'.cell? ⟨m, 1, none⟩ = some (.int .i64 (A))) (c2 : w'.cell? ⟨m, 2, none⟩ = some (.int .i64 (B))) (c3 : w'.cell? ⟨m, 3, none⟩ = some (.int .i64 (C))) (c4 : w'.cell? ⟨m, 4, none⟩ = some (.int .i64 (0))) (c5 : w'.cell? ⟨m, 5, none⟩ = some (.slice none 0 0)) (c6 : w'.cell? ⟨m, 6, none⟩ = some (.slice none 0 0)) : MdX w' m ⟨true, A, B, C, 0, [], []⟩ V :=
  ⟨⟨Nat.lt_of_lt_of_le h.rd.lt hk.size, c0, c1, c2, c3, c4, ⟨_, c5, none, 0, rfl, Nat.le_refl _, Or.inl rfl⟩, ⟨_, c6, none, 0, rfl, Nat.le_refl _, Or.inl rfl⟩, ⟨hb.2.1, hb.1, hb.2.2, by simp⟩, ⟨by simp, fun x hx => by cases hx⟩, ⟨by simp, fun x hx => by cases hx⟩⟩, hf, fun i h1 h2 => (hc i h1 h2).trans (h.cv i h1 h2), ⟨_, c5, Or.inl ⟨rfl, rfl⟩⟩, ⟨_, c6, Or.inl ⟨rfl, rfl⟩⟩, h.gm, fun j hj => h.gf j (Nat.le_trans hk.size hj)⟩
theorem st_init (A B C D : Int) (ao : Option Addr) (n cap : Nat) (lab : Nat → Nat) (m k : Nat) (M : ModS) (w : World) (h : ModX w lab m k M) : Calls Tryz.prog 8 #[.pointer (some ⟨m, 0, none⟩), .agg #[.int .i64 (0), .int .i64 (A), .int .i64 (B), .int .i64 (C), .int .i64 (D), .slice ao n cap]] w (stPost lab m k (((M.S.init A B C).1, []), { M with S := (M.S.init A B C).2 }) w) := by
  have HH := hid h
  obtain ⟨V, hO, h8, h9, h7, h10⟩ := h.opens
  have HO := hid hO
  have H8 := hid h8
  have H9 := hid h9
  have H7 := hid h7
  have H10 := hid h10
  have lt := (hO w (Below.rf _)).rd.lt
  clear h hO h8 h9 h7 h10
  by_cases a1 : A < 1
  · rw [show M.S.init A B C = (2, M.S) from if_neg (by omega)]
    go_enter Tryz.func8, Tryz.ntmps8
    go_wp2
    refine bodyPost_ret (v := .agg #[.int .u8 2, .slice none 0 0]) (by simp [results, Tryz.results8, go_sem, ↓IntWalk.iteOmega, *]) rfl ?_
    exact st_fin HH.out H8.out H9.out H7.out H10.out (by (repeat (first | with_reducible exact Below.rf _ | with_reducible exact World.below_ext _ _ | with_reducible refine Below.ex ?_ _ | with_reducible refine Below.al ?_ _ | with_reducible refine Below.setCell ?_ (by simp) _ | with_reducible refine Below.drew ?_))) (by simp <;> omega) (HO.out _ (by (repeat (first | with_reducible exact Below.rf _ | with_reducible exact World.below_ext _ _ | with_reducible refine Below.ex ?_ _ | with_reducible refine Below.al ?_ _ | with_reducible refine Below.setCell ?_ (by simp) _ | with_reducible refine Below.drew ?_)))) (KeptBut.refl _ _) (KeptBut.refl _ _) HH.out.ft (IntsAt.nil _ _)
  by_cases a2 : 150 < A
  · rw [show M.S.init A B C = (2, M.S) from if_neg (by omega)]
    go_enter Tryz.func8, Tryz.ntmps8
    go_wp2
    refine bodyPost_ret (v := .agg #[.int .u8 2, .slice none 0 0]) (by simp [results, Tryz.results8, go_sem, ↓IntWalk.iteOmega, *]) rfl ?_
    exact st_fin HH.out H8.out H9.out H7.out H10.out (by (repeat (first | with_reducible exact Below.rf _ | with_reducible exact World.below_ext _ _ | with_reducible refine Below.ex ?_ _ | with_reducible refine Below.al ?_ _ | with_reducible refine Below.setCell ?_ (by simp) _ | with_reducible refine Below.drew ?_))) (by simp <;> omega) (HO.out _ (by (repeat (first | with_reducible exact Below.rf _ | with_reducible exact World.below_ext _ _ | with_reducible refine Below.ex ?_ _ | with_reducible refine Below.al ?_ _ | with_reducible refine Below.setCell ?_ (by simp) _ | with_reducible refine Below.drew ?_)))) (KeptBut.refl _ _) (KeptBut.refl _ _) HH.out.ft (IntsAt.nil _ _)
  by_cases a3 : B < 1
  · rw [show M.S.init A B C = (2, M.S) from if_neg (by omega)]
    go_enter Tryz.func8, Tryz.ntmps8
    go_wp2
    refine bodyPost_ret (v := .agg #[.int .u8 2, .slice none 0 0]) (by simp [results, Tryz.results8, go_sem, ↓IntWalk.iteOmega, *]) rfl ?_
    exact st_fin HH.out H8.out H9.out H7.out H10.out (by (repeat (first | with_reducible exact Below.rf _ | with_reducible exact World.below_ext _ _ | with_reducible refine Below.ex ?_ _ | with_reducible refine Below.al ?_ _ | with_reducible refine Below.setCell ?_ (by simp) _ | with_reducible refine Below.drew ?_))) (by simp <;> omega) (HO.out _ (by (repeat (first | with_reducible exact Below.rf _ | with_reducible exact World.below_ext _ _ | with_reducible refine Below.ex ?_ _ | with_reducible refine Below.al ?_ _ | with_reducible refine Below.setCell ?_ (by simp) _ | with_reducible refine Below.drew ?_)))) (KeptBut.refl _ _) (KeptBut.refl _ _) HH.out.ft (IntsAt.nil _ _)
  by_cases a4 : 6 < B
  · rw [show M.S.init A B C = (2, M.S) from if_neg (by omega)]
    go_enter Tryz.func8, Tryz.ntmps8
    go_wp2
    refine bodyPost_ret (v := .agg #[.int .u8 2, .slice none 0 0]) (by simp [results, Tryz.results8, go_sem, ↓IntWalk.iteOmega, *]) rfl ?_
    exact st_fin HH.out H8.out H9.out H7.out H10.out (by (repeat (first | with_reducible exact Below.rf _ | with_reducible exact World.below_ext _ _ | with_reducible refine Below.ex ?_ _ | with_reducible refine Below.al ?_ _ | with_reducible refine Below.setCell ?_ (by simp) _ | with_reducible refine Below.drew ?_))) (by simp <;> omega) (HO.out _ (by (repeat (first | with_reducible exact Below.rf _ | with_reducible exact World.below_ext _ _ | with_reducible refine Below.ex ?_ _ | with_reducible refine Below.al ?_ _ | with_reducible refine Below.setCell ?_ (by simp) _ | with_reducible refine Below.drew ?_)))) (KeptBut.refl _ _) (KeptBut.refl _ _) HH.out.ft (IntsAt.nil _ _)
  by_cases a5 : C < 1
  · rw [show M.S.init A B C = (2, M.S) from if_neg (by omega)]
    go_enter Tryz.func8, Tryz.ntmps8
    go_wp2
    refine bodyPost_ret (v := .agg #[.int .u8 2, .slice none 0 0]) (by simp [results, Tryz.results8, go_sem, ↓IntWalk.iteOmega, *]) rfl ?_
    exact st_fin HH.out H8.out H9.out H7.out H10.out (by (repeat (first | with_reducible exact Below.rf _ | with_reducible exact World.below_ext _ _ | with_reducible refine Below.ex ?_ _ | with_reducible refine Below.al ?_ _ | with_reducible refine Below.setCell ?_ (by simp) _ | with_reducible refine Below.drew ?_))) (by simp <;> omega) (HO.out _ (by (repeat (first | with_reducible exact Below.rf _ | with_reducible exact World.below_ext _ _ | with_reducible refine Below.ex ?_ _ | with_reducible refine Below.al ?_ _ | with_reducible refine Below.setCell ?_ (by simp) _ | with_reducible refine Below.drew ?_)))) (KeptBut.refl _ _) (KeptBut.refl _ _) HH.out.ft (IntsAt.nil _ _)
  by_cases a6 : 1536 < C
  · rw [show M.S.init A B C = (2, M.S) from if_neg (by omega)]
    go_enter Tryz.func8, Tryz.ntmps8
    go_wp2
    refine bodyPost_ret (v := .agg #[.int .u8 2, .slice none 0 0]) (by simp [results, Tryz.results8, go_sem, ↓IntWalk.iteOmega, *]) rfl ?_
    exact st_fin HH.out H8.out H9.out H7.out H10.out (by (repeat (first | with_reducible exact Below.rf _ | with_reducible exact World.below_ext _ _ | with_reducible refine Below.ex ?_ _ | with_reducible refine Below.al ?_ _ | with_reducible refine Below.setCell ?_ (by simp) _ | with_reducible refine Below.drew ?_))) (by simp <;> omega) (HO.out _ (by (repeat (first | with_reducible exact Below.rf _ | with_reducible exact World.below_ext _ _ | with_reducible refine Below.ex ?_ _ | with_reducible refine Below.al ?_ _ | with_reducible refine Below.setCell ?_ (by simp) _ | with_reducible refine Below.drew ?_)))) (KeptBut.refl _ _) (KeptBut.refl _ _) HH.out.ft (IntsAt.nil _ _)
  obtain ⟨A, rfl⟩ := Int.eq_ofNat_of_zero_le (show 0 ≤ A by omega)
  obtain ⟨B, rfl⟩ := Int.eq_ofNat_of_zero_le (show 0 ≤ B by omega)
  obtain ⟨C, rfl⟩ := Int.eq_ofNat_of_zero_le (show 0 ≤ C by omega)
  rw [show M.S.init A B C = (0, ⟨true, A, B, C, 0, [], []⟩) from if_pos (by omega)]
  have M0 := HO.out w (Below.rf _)
  have c0 := M0.rd.c0
  have c1 := M0.rd.c1
  have c2 := M0.rd.c2
  have c3 := M0.rd.c3
  have c4 := M0.rd.c4
  obtain ⟨v5, c5, -⟩ := M0.rd.l5
  obtain ⟨v6, c6, -⟩ := M0.rd.l6
  have f0 := M0.fz 0 (by omega)
  have f1 := M0.fz 1 (by omega)
  have f2 := M0.fz 2 (by omega)
  have f3 := M0.fz 3 (by omega)
  have f4 := M0.fz 4 (by omega)
  have f5 := M0.fz 5 (by omega)
  have f6 := M0.fz 6 (by omega)
  clear M0
  go_enter Tryz.func8, Tryz.ntmps8
  go_wp2
  go_region_held3 (fun w' => w'.cell? ⟨w.heap.size, 1, none⟩ = some (.int .i64 (A)) ∧ w'.cell? ⟨w.heap.size, 2, none⟩ = some (.int .i64 (B)) ∧ w'.cell? ⟨w.heap.size, 3, none⟩ = some (.int .i64 (C))) (simp [go_sem, ↓IntWalk.iteOmega, *]) (fail)
  go_wp2_with (go_at_call 43; refine (mok_any _ ⟨_, _, _, rfl⟩ _).mono ?_; rintro e w' ⟨rfl, z9, rfl⟩)
  refine bodyPost_ret (v := .agg #[.int .u8 0, .slice none 0 0]) (by simp [results, Tryz.results8, go_sem, ↓IntWalk.iteOmega, *]) rfl ?_
  refine st_fin2 HH.out H8.out H9.out H7.out (H10.out.of (Nat.le_succ k) (Nat.le_refl _) (fun _ _ h => h) (fun _ _ _ => rfl)) ((HO.out w (Below.rf _)).init (by omega) (by (repeat (first | with_reducible exact KeptBut.refl _ _ | with_reducible refine KeptBut.ex ?_ _ | with_reducible refine KeptBut.al ?_ _ | with_reducible refine KeptBut.set' ?_ _ _))) (fun i hi => ?_) (fun i h1 h2 => ?_) ?_ ?_ ?_ ?_ ?_ ?_ ?_) (by (repeat (first | with_reducible exact KeptBut.refl _ _ | with_reducible refine KeptBut.ex ?_ _ | with_reducible refine KeptBut.al ?_ _ | with_reducible refine KeptBut.set' ?_ _ _))) (by simp [MdS.fits]) ⟨Nat.le_succ_of_le HH.out.bk.1, Nat.le_succ_of_le HH.out.bk.2.1, HH.out.bk.2.2⟩ (IntsAt.nil _ _)
  · have := (HO.out w (Below.rf _)).fz i hi
    simp [go_sem, ↓IntWalk.iteOmega, this]
  · simp [go_sem, ↓IntWalk.iteOmega]
  all_goals simp [go_sem, ↓IntWalk.iteOmega, *]
end Go.Proofs.Qxb6500717aGreat
