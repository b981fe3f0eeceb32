/-
  do: Block, Truncate.
-/
import Derived.Test.Qxb6500716aDc
namespace Go.Proofs.Qxb6500716a
open Go.RowKit Go.Maps
set_option linter.unusedSimpArgs false
set_option linter.unusedVariables false
set_option maxRecDepth 20000
set_option maxHeartbeats 4000000
theorem do_block (d : Nat) (m : DM) (D : Dk) (o : Opr) (v : Value) (lab : Nat → Nat) (w : World) (h : DkAt w lab d m D) (hv : Ints w lab v o.l) (hO : OpI o) (hK : o.K = 2) (X : Wd) (hW : D.W = some X) (hh : X.T.held ≤ X.T.cap) :
    Calls Try.prog 12 #[.pointer (some ⟨d, 0, none⟩), .agg #[.int .i64 ((o).K), .int .i64 ((o).A), .int .i64 ((o).B), .int .i64 ((o).C), .int .i64 ((o).D), .int .i64 ((o).E), v]] w (doPost lab d ({ D.no with W := some { X with T := (X.T.path o.A o.C o.l).2.2 } }, 0, [(X.T.path o.A o.C o.l).1, (X.T.path o.A o.C o.l).2.1]) w) := by
  have hoA := hO.A
  have hoC := hO.C
  have hol := hO.l
  clear hO
  have hpc := path_c X.T o.A o.C o.l
  obtain ⟨Y, hY⟩ : ∃ y, X.T.path o.A o.C o.l = y := ⟨_, rfl⟩
  rw [hY] at hpc ⊢
  have HY := hid hY
  clear hY
  obtain ⟨yc, yi, T2⟩ := Y
  simp only at hpc ⊢
  have hpc2 : (0 ≤ yc ∧ yc ≤ 7) ∧ yi ≤ 65536 := ⟨hpc.1, by omega⟩
  have HPC := hid hpc2
  clear hpc hpc2
  obtain ⟨vo, vc, hvv, -⟩ := hv.ex
  have HV := hid hv
  have HD := hid h
  have hdl := h.b.lt
  have e3 : w.cell? ⟨d, 3, none⟩ = some (.bool D.ask) := h.b.is 3 (by omega)
  have y3 := h.b.fz 3 (by omega)
  obtain ⟨K, A, B, C, Dd, E, l⟩ := o
  simp only at hK
  subst hK
  have hw0 := h.wd
  rw [hW] at hw0
  obtain ⟨fb0, _, _, _, f0, -⟩ := hw0
  have e0 : w.cell? ⟨d, 0, none⟩ = some (.pointer (some ⟨fb0, 0, none⟩)) := by
    rw [h.b.is 0 (by omega)]
    show some m.fv = _
    rw [f0]
  subst hvv
  simp only at *
  obtain ⟨ln, hln⟩ : ∃ y, l.length = y := ⟨_, rfl⟩
  rw [hln] at HV ⊢
  have HLN := hid hln
  clear h hv f0 hln
  go_enter Try.func12, Try.ntmps12
  go_wp2
  refine wp_nm fun w1 hw1 => ?_
  clear e0
  obtain ⟨l1, hS1⟩ := do_start (o := ⟨2, A, B, C, Dd, E, l⟩) HD.out HV.out (.int .u8 0) (.slice none 0 0) ⟨rfl, rfl⟩ w1 hw1
  have hw := hS1.a.wd
  rw [show D.no.W = some X from hW] at hw
  obtain ⟨fb, M, N, n, f1, f2, f3, hF, hT, hP⟩ := hw
  have S1 := hid hS1
  have e0 : w1.cell? ⟨d, 0, none⟩ = some (.pointer (some ⟨fb, 0, none⟩)) := by
    rw [hS1.a.b.is 0 (by omega)]
    show some m.fv = _
    rw [f1]
  have e1 : w1.cell? ⟨d, 1, none⟩ = some (.pointer (some ⟨M.t, 0, none⟩)) := by
    rw [hS1.a.b.is 1 (by omega)]
    show some m.tv = _
    rw [f2]
  have e2 : w1.cell? ⟨d, 2, none⟩ = some (.pointer (some ⟨N.p, 0, none⟩)) := by
    rw [hS1.a.b.is 2 (by omega)]
    show some m.pv = _
    rw [f3]
  have hdl1 := hS1.a.b.lt
  have hxl1 := hS1.bx.lt
  have x1 : w1.cell? ⟨w.heap.size, 1, none⟩ = some (.int .i64 (A)) := hS1.bx.is 1 (by omega)
  have x3 : w1.cell? ⟨w.heap.size, 3, none⟩ = some (.int .i64 (C)) := hS1.bx.is 3 (by omega)
  have x6 : w1.cell? ⟨w.heap.size, 6, none⟩ = some (.slice vo ln vc) := hS1.bx.is 6 (by omega)
  have AD := hid (fun (w' : World) (h : Below w1.heap.size w1 w') => path_any M X.T l1 A C (.slice vo ln vc) l w' (hT.below h) hh hoA hoC (hS1.below h).iv)
  have G1 := hid (And.intro f1 (And.intro f2 (And.intro f3 (And.intro hF hP))))
  rw [HY.out] at AD
  clear f1 f2 f3 hF hT hP hS1 hw1 hh
  refine wp_region_tree 10 (fun w' => w'.cell? ⟨d, 1, none⟩ = some (.pointer (some ⟨M.t, 0, none⟩)) ∧ w'.cell? ⟨w.heap.size, 1, none⟩ = some (.int .i64 (A)) ∧ w'.cell? ⟨w.heap.size, 3, none⟩ = some (.int .i64 (C)) ∧ w'.cell? ⟨w.heap.size, 6, none⟩ = some (.slice vo ln vc)) (.q 0 false (.q 1 false (.q 2 false (.q 3 true (.q 4 false (.q 5 true (.q 6 false (.q 7 true (.q 8 false (.q 9 true (.one 10 false (.q 11 false (.q 12 false (.q 13 false (.q 14 false (.q 15 false .nil)))))))))))))))) (by kernel_rfl) (by kernel_rfl) (by kernel_rfl) ?_ ?_
  · simp [go_sem, ↓IntWalk.iteOmega, *]
  repeat (first | (refine wpTr_qf (v := ?_) rfl rfl ?_ ?_; rotate_left; focus (intro w; go_simp; (try (with_reducible rfl)); done); try simp only [List.getElem_toArray, List.getElem_cons_zero, List.getElem_cons_succ, Act.put, List.setIfInBounds_toArray, List.set_cons_zero, List.set_cons_succ]) | (refine wpTr_qt (v := ?_) rfl rfl ?_ ?_; rotate_left; focus (intro w hSw; (try dsimp only at hSw); go_simp; (try (with_reducible rfl)); done); try simp only [List.getElem_toArray, List.getElem_cons_zero, List.getElem_cons_succ, Act.put, List.setIfInBounds_toArray, List.set_cons_zero, List.set_cons_succ]))
  refine wpTr_one rfl rfl (fun K hK => ?_)
  go_simp
  go_at_call 51
  refine (AD.out _ (by (repeat (first | with_reducible exact Below.rf _ | with_reducible exact World.below_ext _ _ | with_reducible refine Below.ex ?_ _ | with_reducible refine Below.al ?_ _ | with_reducible refine Below.setCell ?_ (by simp) _ | with_reducible refine Below.drew ?_)))).mono ?_
  rintro e w2 ⟨rfl, hT2, hk2'⟩
  refine hK.out _ _ (fun h => by cases h) ?_
  clear hK K
  repeat (first | (refine wpTr_qf (v := ?_) rfl rfl ?_ ?_; rotate_left; focus (intro w; go_simp; (try (with_reducible rfl)); done); try simp only [List.getElem_toArray, List.getElem_cons_zero, List.getElem_cons_succ, Act.put, List.setIfInBounds_toArray, List.set_cons_zero, List.set_cons_succ]) | (refine wpTr_qt (v := ?_) rfl rfl ?_ ?_; rotate_left; focus (intro w hSw; (try dsimp only at hSw); go_simp; (try (with_reducible rfl)); done); try simp only [List.getElem_toArray, List.getElem_cons_zero, List.getElem_cons_succ, Act.put, List.setIfInBounds_toArray, List.set_cons_zero, List.set_cons_succ]))
  refine wpTr_nil ?_
  refine NoPanic.normal ?_
  have hM2 : M.t = M.t := rfl
  have hl2 : ∀ k, k < w1.drew.heap.size → l1 k = l1 k := fun _ _ => rfl
  have hk2 : KeptL l1 tabL w1.drew w2 := hk2'.mono (fun x hx => by unfold tabL; omega)
  clear hk2'
  obtain ⟨f1, f2, f3, hF, hP⟩ := G1.out
  have hbz : Below w1.heap.size w1 w1.drew := (Below.rf w1).drew
  have S2 := hid ((S1.out.below hbz).tab hW f1 f2 f3 (hF.below hbz) (hP.below hbz) hT2 hM2 hl2 hk2)
  clear f1 f2 f3 hF hP hbz hT2 hM2 hl2 hk2 S1 G1 e0 e1 e2 hdl1 hxl1
  obtain ⟨l2, hl2⟩ : ∃ y, l1 = y := ⟨_, rfl⟩
  rw [hl2] at S2
  have hci : Hid (I64 yc) := by have := HPC.out; exact ⟨by omega, by omega⟩
  have hyi : Hid (I64 (yi : Int)) := by have := HPC.out; exact ⟨by omega, by omega⟩
  clear AD x1 x3 x6 hl2
  go_wp2_with (first | (go_at_call 49; refine hold ?_))
  unfold Hid
  refine calls_nm fun w3 hw3 => ?_
  have B3 : Below w2.heap.size w2 w3 := by rw [hw3]; (repeat (first | with_reducible exact Below.rf _ | with_reducible exact World.below_ext _ _ | with_reducible refine Below.ex ?_ _ | with_reducible refine Below.al ?_ _ | with_reducible refine Below.setCell ?_ (by simp) _ | with_reducible refine Below.drew ?_))
  have hud : ∀ j, j < w2.heap.size → upd l2 w2.heap.size 0 j = l2 j := fun j hj => upd_ne _ _ (by omega)
  have S3 := hid ((S2.out.relab hud).below B3)
  have I3 : Hid (Ints w3 (upd l2 w2.heap.size 0) (.slice (some ⟨w2.heap.size, 0, none⟩) 2 2) [yc, yi]) := by
    unfold Hid
    rw [hw3]
    exact (ints2 _ _ hci.out hyi.out)
  obtain ⟨a0, a1, q3⟩ := S3.out.bq
  have k0 : w3.cell? ⟨w.heap.size + 1, 0, none⟩ = some a0 := q3.is 0 (by omega)
  have k1 : w3.cell? ⟨w.heap.size + 1, 1, none⟩ = some a1 := q3.is 1 (by omega)
  have kz0 := q3.fz 0 (by omega)
  have kz1 := q3.fz 1 (by omega)
  have kl := q3.lt
  clear B3 hud q3 hw3 S2
  refine (ok49_any _ _ _ _).mono ?_
  rintro e w4 ⟨rfl, z4, rfl⟩
  go_wp2
  refine bodyPost_ret (v := .agg #[.int .u8 0, .slice (some ⟨w2.heap.size, 0, none⟩) 2 2]) (by simp [results, Try.results12, go_sem, ↓IntWalk.iteOmega, k0, k1]) rfl ?_
  exact (do_fin S3.out hdl 0 _ _ I3.out).below (World.below_ext _ _)
def TS.cutC (T : TS) (r t : Int) : Int × Int × TS := if T.rOk r = true then (0, (T.held : Int) - ((T.trunc r t).held : Int), T.trunc r t) else (1, 0, T)
theorem cutC_any (M : TM) (T : TS) (lab : Nat → Nat) (r t : Int) (w : World) (h : TAt w lab M T) (ht : I64 t) : Calls Try.prog 52 #[.pointer (some ⟨M.t, 0, none⟩), .int .i64 (r), .int .i64 (t)] w (tabPost lab M (.tuple #[.int .i64 ((T.cutC r t).2.1), .int .i64 ((T.cutC r t).1)]) (T.cutC r t).2.2 w) := by
  have hb := h.bd.base
  unfold TS.cutC
  by_cases hr : T.rOk r = true
  · rw [if_pos hr]
    exact trunc_any M T lab r t w h hr (max t (T.base : Int)).toNat (by omega) (by have := ht.2; omega)
  · rw [if_neg hr]
    refine (trunc_bad M T lab r t w h (by cases hx : T.rOk r <;> simp_all)).mono ?_
    rintro e w' ⟨rfl, rfl⟩
    exact ⟨lab, M, rfl, h, rfl, rfl, fun _ _ => rfl, KeptL.refl _ _ _⟩
theorem cutC_fx (T : TS) (r t : Int) : TFx T (T.cutC r t).2.2 := by
  unfold TS.cutC
  split
  · exact trunc_fx T r t
  · exact TFx.rf T
theorem do_trunc (d : Nat) (m : DM) (D : Dk) (o : Opr) (v : Value) (lab : Nat → Nat) (w : World) (h : DkAt w lab d m D) (hv : Ints w lab v o.l) (hO : OpI o) (hK : o.K = 4) (X : Wd) (hW : D.W = some X) :
    Calls Try.prog 12 #[.pointer (some ⟨d, 0, none⟩), .agg #[.int .i64 ((o).K), .int .i64 ((o).A), .int .i64 ((o).B), .int .i64 ((o).C), .int .i64 ((o).D), .int .i64 ((o).E), v]] w (doPost lab d ({ D.no with W := some { X with T := (X.T.cutC o.A o.C).2.2 } }, 0, [(X.T.cutC o.A o.C).1, (X.T.cutC o.A o.C).2.1]) w) := by
  have hoC := hO.C
  clear hO
  have hpc : (X.T.held ≤ 2000) → (0 ≤ (X.T.cutC o.A o.C).1 ∧ (X.T.cutC o.A o.C).1 ≤ 7) ∧ 0 ≤ (X.T.cutC o.A o.C).2.1 ∧ (X.T.cutC o.A o.C).2.1 ≤ 2000 := fun h2 => by
    have h1 := trunc_held X.T o.A o.C
    unfold TS.cutC
    split
    · simp only; omega
    · simp
  obtain ⟨Y, hY⟩ : ∃ y, X.T.cutC o.A o.C = y := ⟨_, rfl⟩
  rw [hY] at hpc ⊢
  have HY := hid hY
  have HPC0 := hid hpc
  clear hY hpc
  obtain ⟨yc, yi, T2⟩ := Y
  simp only at HPC0 ⊢
  obtain ⟨vo, vc, hvv, -⟩ := hv.ex
  have HV := hid hv
  have HD := hid h
  have hdl := h.b.lt
  have e3 : w.cell? ⟨d, 3, none⟩ = some (.bool D.ask) := h.b.is 3 (by omega)
  have y3 := h.b.fz 3 (by omega)
  obtain ⟨K, A, B, C, Dd, E, l⟩ := o
  simp only at hK
  subst hK
  have hw0 := h.wd
  rw [hW] at hw0
  obtain ⟨fb0, _, _, _, f0, -⟩ := hw0
  have e0 : w.cell? ⟨d, 0, none⟩ = some (.pointer (some ⟨fb0, 0, none⟩)) := by
    rw [h.b.is 0 (by omega)]
    show some m.fv = _
    rw [f0]
  subst hvv
  simp only at *
  obtain ⟨ln, hln⟩ : ∃ y, l.length = y := ⟨_, rfl⟩
  rw [hln] at HV ⊢
  have HLN := hid hln
  clear h hv f0 hln
  go_enter Try.func12, Try.ntmps12
  go_wp2
  refine wp_nm fun w1 hw1 => ?_
  clear e0
  obtain ⟨l1, hS1⟩ := do_start (o := ⟨4, A, B, C, Dd, E, l⟩) HD.out HV.out (.int .u8 0) (.slice none 0 0) ⟨rfl, rfl⟩ w1 hw1
  have hw := hS1.a.wd
  rw [show D.no.W = some X from hW] at hw
  obtain ⟨fb, M, N, n, f1, f2, f3, hF, hT, hP⟩ := hw
  have S1 := hid hS1
  have e0 : w1.cell? ⟨d, 0, none⟩ = some (.pointer (some ⟨fb, 0, none⟩)) := by
    rw [hS1.a.b.is 0 (by omega)]
    show some m.fv = _
    rw [f1]
  have e1 : w1.cell? ⟨d, 1, none⟩ = some (.pointer (some ⟨M.t, 0, none⟩)) := by
    rw [hS1.a.b.is 1 (by omega)]
    show some m.tv = _
    rw [f2]
  have e2 : w1.cell? ⟨d, 2, none⟩ = some (.pointer (some ⟨N.p, 0, none⟩)) := by
    rw [hS1.a.b.is 2 (by omega)]
    show some m.pv = _
    rw [f3]
  have hdl1 := hS1.a.b.lt
  have hxl1 := hS1.bx.lt
  have x1 : w1.cell? ⟨w.heap.size, 1, none⟩ = some (.int .i64 (A)) := hS1.bx.is 1 (by omega)
  have x3 : w1.cell? ⟨w.heap.size, 3, none⟩ = some (.int .i64 (C)) := hS1.bx.is 3 (by omega)
  have AD := hid (fun (w' : World) (h : Below w1.heap.size w1 w') => cutC_any M X.T l1 A C w' (hT.below h) hoC)
  have G1 := hid (And.intro f1 (And.intro f2 (And.intro f3 (And.intro hF hP))))
  rw [HY.out] at AD
  have HPC := hid (HPC0.out hT.bd.held)
  clear f1 f2 f3 hF hT hP hS1 hw1 HPC0
  refine wp_region_tree 8 (fun w' => w'.cell? ⟨d, 1, none⟩ = some (.pointer (some ⟨M.t, 0, none⟩)) ∧ w'.cell? ⟨w.heap.size, 1, none⟩ = some (.int .i64 (A)) ∧ w'.cell? ⟨w.heap.size, 3, none⟩ = some (.int .i64 (C))) (.q 0 false (.q 1 false (.q 2 false (.q 3 true (.q 4 false (.q 5 true (.q 6 false (.q 7 true (.one 8 false (.q 9 false (.q 10 false (.q 11 false (.q 12 false (.q 13 false .nil)))))))))))))) (by kernel_rfl) (by kernel_rfl) (by kernel_rfl) ?_ ?_
  · simp [go_sem, ↓IntWalk.iteOmega, *]
  repeat (first | (refine wpTr_qf (v := ?_) rfl rfl ?_ ?_; rotate_left; focus (intro w; go_simp; (try (with_reducible rfl)); done); try simp only [List.getElem_toArray, List.getElem_cons_zero, List.getElem_cons_succ, Act.put, List.setIfInBounds_toArray, List.set_cons_zero, List.set_cons_succ]) | (refine wpTr_qt (v := ?_) rfl rfl ?_ ?_; rotate_left; focus (intro w hSw; (try dsimp only at hSw); go_simp; (try (with_reducible rfl)); done); try simp only [List.getElem_toArray, List.getElem_cons_zero, List.getElem_cons_succ, Act.put, List.setIfInBounds_toArray, List.set_cons_zero, List.set_cons_succ]))
  refine wpTr_one rfl rfl (fun K hK => ?_)
  go_simp
  go_at_call 52
  refine (AD.out _ (by (repeat (first | with_reducible exact Below.rf _ | with_reducible exact World.below_ext _ _ | with_reducible refine Below.ex ?_ _ | with_reducible refine Below.al ?_ _ | with_reducible refine Below.setCell ?_ (by simp) _ | with_reducible refine Below.drew ?_)))).mono ?_
  rintro e w2 ⟨l2, M2, rfl, hT2, hM2, -, hl2, hk2⟩
  refine hK.out _ _ (fun h => by cases h) ?_
  clear hK K
  repeat (first | (refine wpTr_qf (v := ?_) rfl rfl ?_ ?_; rotate_left; focus (intro w; go_simp; (try (with_reducible rfl)); done); try simp only [List.getElem_toArray, List.getElem_cons_zero, List.getElem_cons_succ, Act.put, List.setIfInBounds_toArray, List.set_cons_zero, List.set_cons_succ]) | (refine wpTr_qt (v := ?_) rfl rfl ?_ ?_; rotate_left; focus (intro w hSw; (try dsimp only at hSw); go_simp; (try (with_reducible rfl)); done); try simp only [List.getElem_toArray, List.getElem_cons_zero, List.getElem_cons_succ, Act.put, List.setIfInBounds_toArray, List.set_cons_zero, List.set_cons_succ]))
  refine wpTr_nil ?_
  refine NoPanic.normal ?_
  obtain ⟨f1, f2, f3, hF, hP⟩ := G1.out
  have hbz : Below w1.heap.size w1 w1.drew := (Below.rf w1).drew
  have S2 := hid ((S1.out.below hbz).tab hW f1 f2 f3 (hF.below hbz) (hP.below hbz) hT2 hM2 hl2 hk2)
  clear f1 f2 f3 hF hP hbz hT2 hM2 hl2 hk2 S1 G1 e0 e1 e2 hdl1 hxl1
  have hci : Hid (I64 yc) := by have := HPC.out; exact ⟨by omega, by omega⟩
  have hyi : Hid (I64 yi) := by have := HPC.out; exact ⟨by omega, by omega⟩
  clear AD x1 x3
  go_wp2_with (first | (go_at_call 49; refine hold ?_))
  unfold Hid
  refine calls_nm fun w3 hw3 => ?_
  have B3 : Below w2.heap.size w2 w3 := by rw [hw3]; (repeat (first | with_reducible exact Below.rf _ | with_reducible exact World.below_ext _ _ | with_reducible refine Below.ex ?_ _ | with_reducible refine Below.al ?_ _ | with_reducible refine Below.setCell ?_ (by simp) _ | with_reducible refine Below.drew ?_))
  have hud : ∀ j, j < w2.heap.size → upd l2 w2.heap.size 0 j = l2 j := fun j hj => upd_ne _ _ (by omega)
  have S3 := hid ((S2.out.relab hud).below B3)
  have I3 : Hid (Ints w3 (upd l2 w2.heap.size 0) (.slice (some ⟨w2.heap.size, 0, none⟩) 2 2) [yc, yi]) := by
    unfold Hid
    rw [hw3]
    exact (ints2 _ _ hci.out hyi.out)
  obtain ⟨a0, a1, q3⟩ := S3.out.bq
  have k0 : w3.cell? ⟨w.heap.size + 1, 0, none⟩ = some a0 := q3.is 0 (by omega)
  have k1 : w3.cell? ⟨w.heap.size + 1, 1, none⟩ = some a1 := q3.is 1 (by omega)
  have kz0 := q3.fz 0 (by omega)
  have kz1 := q3.fz 1 (by omega)
  have kl := q3.lt
  clear B3 hud q3 hw3 S2
  refine (ok49_any _ _ _ _).mono ?_
  rintro e w4 ⟨rfl, z4, rfl⟩
  go_wp2
  refine bodyPost_ret (v := .agg #[.int .u8 0, .slice (some ⟨w2.heap.size, 0, none⟩) 2 2]) (by simp [results, Try.results12, go_sem, ↓IntWalk.iteOmega, k0, k1]) rfl ?_
  exact (do_fin S3.out hdl 0 _ _ I3.out).below (World.below_ext _ _)
end Go.Proofs.Qxb6500716a
