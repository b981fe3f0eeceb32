/-
  turns: the walk.
-/
import Derived.Test.Qxb6500715aDoorBend
import Derived.Test.Qxb6500715aDoorPath
import Derived.Test.Qxb6500715aDoorReg
namespace Go.Proofs.Qxb6500715aDoor
open Go.RowKit
set_option linter.unusedSimpArgs false
set_option linter.unusedVariables false


theorem KeptBut.below_of {B : Nat} {wb w w' : World} (h : Below wb.heap.size wb w) (hk : KeptBut B w w') (hB : wb.heap.size ≤ B) : Below wb.heap.size wb w' :=
  h.trans (hk.to_below hB h.size)

/-- What turns hands back. -/
def turnPost (B : Nat) (U : List (Nat × Nat)) (w : World) (e : Ending) (w' : World) : Prop :=
  e = .returned (.slice (some ⟨B, 0, none⟩) U.length 5) ∧ Pad w' B 10 (prow U) ∧ KeptBut B w w'

theorem bnd_len (A P S r1 q1 r2 q2 : Nat) : (bnd A P S r1 q1 r2 q2).length ≤ 2 := by
  unfold bnd
  repeat' split
  all_goals simp
theorem trn_len (F : FP) (a b : Nat) : (F.trn a b).length ≤ 5 := by
  unfold FP.trn
  split
  · simp
  · have := bnd_len F.A F.P F.S (F.ar a) (F.col a) (F.ar b) (F.col b)
    simp; omega

set_option maxRecDepth 20000 in
set_option maxHeartbeats 2000000 in
theorem turns_any (F : FP) (a b B : Nat) (wb w : World) (hF : FlN wb F) (hBw : Below wb.heap.size wb w) (hBB : wb.heap.size ≤ B) (hpad : Pad w B 10 []) (ha : a < F.N) (hb : b < F.N) :
    Calls Tryd.prog 97 #[.pointer (some ⟨F.fb, 0, none⟩), .slice (some ⟨B, 0, none⟩) 0 5, .int .i64 (a), .int .i64 (b)] w (turnPost B (F.trn a b) w) := by
  have HF := hid hF
  have HBW := hid hBw
  have HPAD := hid hpad
  have hBlt := hpad.lt
  have hp := hF.pln
  have h : FlN w F := hF.below hBw
  have HH := hid h
  have oa := anchor_on hp ha
  have ob := anchor_on hp hb
  have hA := h.lay.hA
  have hP := h.lay.hP
  have hS := h.lay.hS
  unfold FP.trn
  by_cases hab : a = b
  · subst hab
    rw [if_pos rfl]
    clear hF hBw hpad h oa ob hp
    go_enter Tryd.func97, Tryd.ntmps97
    go_wp2
    go_ret
    exact ⟨rfl, HPAD.out, KeptBut.refl _ _⟩
  · rw [if_neg hab]
    have d1 : ((a : Int) == (b : Int)) = false := by simp; omega
    have HBN := hid (fun (vs : List Value) (w' : World) (h1 : Hid (Pad w' B 10 vs)) (h2 : vs.length = 2) => bends_any F.A F.P F.S F.D 1 F.c (.slice (some ⟨F.pb, 0, none⟩) F.n F.cap) (F.ar a) (F.col a) (F.ar b) (F.col b) B vs w' hA (by omega) hS oa ob h1 h2)
    have CA := hid (fun w' (h' : FlN w' F) => anchor_any F a w' h' ha)
    have CB := hid (fun w' (h' : FlN w' F) => anchor_any F b w' h' hb)
    have hbl := bnd_len F.A F.P F.S (F.ar a) (F.col a) (F.ar b) (F.col b)
    generalize bnd F.A F.P F.S (F.ar a) (F.col a) (F.ar b) (F.col b) = X at *
    generalize F.ar a = ra at *
    generalize F.ar b = rb at *
    generalize F.col a = qa at *
    generalize hpr : F.row b = pr at *
    generalize hqb : F.col b = qb at *
    have HPR := hid hpr
    have HQB := hid hqb
    clear hF hBw hpad h oa ob hp hab hpr hqb
    go_enter Tryd.func97, Tryd.ntmps97
    go_wp2_with (first | (go_at_call 52; first | (with_reducible refine (CA.out _ HH.out).mono ?_; rintro e w' ⟨rfl, z1, rfl⟩) | (with_reducible refine (CB.out _ (HH.out.below (by (repeat (first | with_reducible exact Below.rf _ | with_reducible exact World.below_ext _ _ | with_reducible refine Below.ex ?_ _ | with_reducible refine Below.al ?_ _ | with_reducible refine Below.setCell ?_ (by simp) _ | with_reducible refine Below.drew ?_))))).mono ?_; rintro e w' ⟨rfl, z2, rfl⟩)) | (at_builtin; refine hold ?_))
    unfold Hid
    refine wp_pad rfl _ _ 64 rfl 63 (.agg #[.int .i64 (0), .int .i64 (0)]) 2 16 Tryd.underlying64 (by kernel_rfl) B 0 5 10 [] rfl (HPAD.out.below (by (repeat (first | with_reducible exact Below.rf _ | with_reducible exact World.below_ext _ _ | with_reducible refine Below.ex ?_ _ | with_reducible refine Below.al ?_ _ | with_reducible refine Below.setCell ?_ (by simp) _ | with_reducible refine Below.drew ?_)))) rfl _ 0 1 1 [.int .i64 (ra), .int .i64 (qa)] rfl rfl ?_ (by simp [Value.oneCell']) (by omega) (by omega) ?_
    · intro j u hj; simp [go_sem, ↓IntWalk.iteOmega]; simpa using hj
    intro w1 hp1 hk1 hs1
    have k9a := hk1.cell (k := w.heap.size + z1.heap.size) 0 (by simp; omega) (by omega)
    have k9b := hk1.cell (k := w.heap.size + z1.heap.size) 1 (by simp; omega) (by omega)
    have k11a := hk1.cell (k := w.heap.size + z1.heap.size + 1 + z2.heap.size) 0 (by simp; omega) (by omega)
    have k11b := hk1.cell (k := w.heap.size + z1.heap.size + 1 + z2.heap.size) 1 (by simp; omega) (by omega)
    simp [go_sem, ↓IntWalk.iteOmega] at k9a k9b k11a k11b
    have hs1' : w1.heap.size = w.heap.size + z1.heap.size + 1 + z2.heap.size + 1 + 1 := by rw [hs1]; simp
    have KW1 : Hid (KeptBut B w w1) := by
      refine KeptBut.trans ?_ hk1
      exact (((((KeptBut.refl B w).ex z1).al _).ex z2).al _).al _
    have hF1 : FlN w1 F := HF.out.below (KeptBut.below_of HBW.out KW1.out hBB)
    obtain ⟨B9, hB9⟩ : ∃ x, w.heap.size + z1.heap.size = x := ⟨_, rfl⟩
    rw [hB9] at k9a k9b k11a k11b hs1' ⊢
    obtain ⟨B11, hB11⟩ : ∃ x, B9 + 1 + z2.heap.size = x := ⟨_, rfl⟩
    rw [hB11] at k11a k11b hs1' ⊢
    have hb9 : B9 < w1.heap.size ∧ B9 ≠ B := by omega
    have hb11 : B11 < w1.heap.size ∧ B11 ≠ B := by omega
    obtain ⟨hfb, hW, h0, h1, h2, h3, h4, h5, h6, h7, h8, fz⟩ := hF1.hdr
    have HP1 := hid hp1
    clear hp1 hk1 hs1 hs1' hB9 hB11 hF1 fz hW
    go_wp2
    first | with_reducible refine wp_region_tail_ext2 7 (by kernel_rfl) (by kernel_rfl) ?_ | refine wp_region_tail_ext 7 (by kernel_rfl) (by kernel_rfl) ?_
    simp only [List.take_succ_cons, List.take_zero, List.drop_succ_cons, List.drop_zero]
    repeat (go_big_quiet_step (fail))
    refine wpQuiet_nil ?_
    rintro _ ⟨z, rfl⟩
    go_wp2_with fail
    refine (HBN.out [.int .i64 (ra), .int .i64 (qa)] _ (HP1.out.below (World.below_ext _ _)) rfl).mono ?_
    rintro e w2 ⟨rfl, hp2, hk2⟩
    have KW2 : Hid (KeptBut B w w2) := KeptBut.trans (KW1.out.ex _) hk2
    have hsz2 := hk2.size
    have c11a := (hk2.cell (k := B11) 0 (by simp only [World.size_ext]; omega) hb11.2).trans ((World.cell?_of_block (World.block_ext w1 _ B11 hb11.1)).trans k11a)
    have c11b := (hk2.cell (k := B11) 1 (by simp only [World.size_ext]; omega) hb11.2).trans ((World.cell?_of_block (World.block_ext w1 _ B11 hb11.1)).trans k11b)
    have hF2 : FlN w2 F := HF.out.below (KeptBut.below_of HBW.out KW2.out hBB)
    have i11 := hF2.num.i11
    have hqc := hF2.num.qc
    have hql := hF2.num.lt.2.1
    have hfb2 := hF2.hdr.hfb
    have p0 := hF2.num.pos0 b hb
    have p1 := hF2.num.pos1 b hb
    rw [Nat.zero_add] at p0 p1
    rw [show plc (fun t => drv (F.kd t)) F.L b / F.W = F.row b from rfl, HPR.out] at p0
    rw [show plc (fun t => drv (F.kd t)) F.L b % F.W = F.col b from rfl, HQB.out] at p1
    have hb11' : B11 < w2.heap.size := by rw [World.size_ext] at hsz2; omega
    have HP2 := hid hp2
    obtain ⟨nx, hnx⟩ : ∃ nx, X.length = nx := ⟨_, rfl⟩
    rw [hnx] at hbl ⊢
    have HNX := hid hnx
    clear hp2 hk2 hsz2 hF2 h0 h1 h2 h3 h4 h5 h6 h7 h8 k9a k9b k11a k11b hfb hb9 hb11 hnx
    have hpl2 : (prow X).length = 2 * nx := by rw [prow_len, HNX.out]
    go_wp2
    refine wp_region_mid 9 10 (fun w' => w'.cell? ⟨B11, 0, none⟩ = some (.int .i64 (rb)) ∧ w'.cell? ⟨B11, 1, none⟩ = some (.int .i64 (qb)) ∧ w'.cell? ⟨F.fb, 11, none⟩ = some (.slice (some ⟨F.qb, 0, none⟩) F.N F.qc) ∧ w'.cell? ⟨F.qb, b * 2, none⟩ = some (.int .i64 (pr)) ∧ w'.cell? ⟨F.qb, b * 2 + 1, none⟩ = some (.int .i64 (qb))) (by kernel_rfl) (by kernel_rfl) (by kernel_rfl) (by kernel_rfl) (by kernel_rfl) (by kernel_rfl) ?_ ?_
    · simp [go_sem, ↓IntWalk.iteOmega, *]
    simp only [List.take_succ_cons, List.take_zero, List.drop_succ_cons, List.drop_zero]
    repeat (refine wpHeld_step (v := ?_) rfl ?_ ?_; rotate_left; focus (intro w hSw; (try dsimp only at hSw); go_simp; (try (with_reducible rfl)); done); try simp only [Act.put, List.setIfInBounds_toArray, List.set_cons_zero, List.set_cons_succ])
    refine wpHeld_nil ?_
    refine wpMid_stepK rfl (fun K hK => ?_)
    go_simp
    refine hK.out _ _ (by simp [go_sem, ↓IntWalk.iteOmega, *]) ?_
    clear hK K
    refine wpMid_zero ?_
    refine wp_pad rfl _ _ 64 rfl 63 (.agg #[.int .i64 (0), .int .i64 (0)]) 2 16 Tryd.underlying64 (by kernel_rfl) B (1 + nx) 5 10 _ rfl (HP2.out.below (by (repeat (first | with_reducible exact Below.rf _ | with_reducible exact World.below_ext _ _ | with_reducible refine Below.ex ?_ _ | with_reducible refine Below.al ?_ _ | with_reducible refine Below.setCell ?_ (by simp) _ | with_reducible refine Below.drew ?_)))) (by simp [hpl2]; omega) _ 0 2 2 [.int .i64 (rb), .int .i64 (qb), .int .i64 (pr), .int .i64 (qb)] rfl rfl ?_ (by simp [Value.oneCell']) (by omega) (by omega) ?_
    · intro j u hj; simp [go_sem, ↓IntWalk.iteOmega]; simpa using hj
    intro w3 hp3 hk3 hs3
    go_wp2
    refine NoPanic.normal ?_
    go_wp2
    go_ret
    refine ⟨?_, ?_, ?_⟩
    · simp [HNX.out]; omega
    · have : prow ((ra, qa) :: (X ++ [(rb, qb), (pr, qb)])) = ([.int .i64 (ra), .int .i64 (qa)] ++ prow X) ++ [.int .i64 (rb), .int .i64 (qb), .int .i64 (pr), .int .i64 (qb)] := by simp [prow]
      rw [this]; exact hp3
    · exact KeptBut.trans (KW2.out.below (((Below.rf w2).drew).al _) KW2.out.size) hk3
end Go.Proofs.Qxb6500715aDoor
