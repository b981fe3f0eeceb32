/-
  do: Advance, Stand.
-/
import Derived.Test.Qxb6500716aDb
namespace Go.Proofs.Qxb6500716a
open Go.RowKit Go.Maps
set_option linter.unusedSimpArgs false
set_option linter.unusedVariables false
set_option maxRecDepth 20000
set_option maxHeartbeats 4000000
theorem do_adv (d : Nat) (m : DM) (D : Dk) (o : Opr) (v : Value) (lab : Nat → Nat) (w : World) (h : DkAt w lab d m D) (hv : Ints w lab v o.l) (hK : o.K = 1) (X : Wd) (hW : D.W = some X) :
    Calls Try.prog 12 #[.pointer (some ⟨d, 0, none⟩), .agg #[.int .i64 ((o).K), .int .i64 ((o).A), .int .i64 ((o).B), .int .i64 ((o).C), .int .i64 ((o).D), .int .i64 ((o).E), v]] w (doPost lab d ({ D.no with W := some { X with T := (X.T.adv o.C).2 } }, 0, [(X.T.adv o.C).1]) w) := by
  obtain ⟨vo, vc, hvv, -⟩ := hv.ex
  have HV := hid hv
  have HD := hid h
  have hdl := h.b.lt
  have e3 : w.cell? ⟨d, 3, none⟩ = some (.bool D.ask) := h.b.is 3 (by omega)
  have y3 := h.b.fz 3 (by omega)
  obtain ⟨K, A, B, C, Dd, E, l⟩ := o
  simp only at hK
  subst hK
  have hw0 := h.wd
  rw [hW] at hw0
  obtain ⟨fb0, _, _, _, f0, -⟩ := hw0
  have e0 : w.cell? ⟨d, 0, none⟩ = some (.pointer (some ⟨fb0, 0, none⟩)) := by
    rw [h.b.is 0 (by omega)]
    show some m.fv = _
    rw [f0]
  subst hvv
  simp only at *
  obtain ⟨ln, hln⟩ : ∃ y, l.length = y := ⟨_, rfl⟩
  rw [hln] at HV ⊢
  have HLN := hid hln
  clear h hv f0 hln
  go_enter Try.func12, Try.ntmps12
  go_wp2
  refine wp_nm fun w1 hw1 => ?_
  clear e0
  obtain ⟨l1, hS1⟩ := do_start (o := ⟨1, A, B, C, Dd, E, l⟩) HD.out HV.out (.int .u8 0) (.slice none 0 0) ⟨rfl, rfl⟩ w1 hw1
  have hw := hS1.a.wd
  rw [show D.no.W = some X from hW] at hw
  obtain ⟨fb, M, N, n, f1, f2, f3, hF, hT, hP⟩ := hw
  have S1 := hid hS1
  have e0 : w1.cell? ⟨d, 0, none⟩ = some (.pointer (some ⟨fb, 0, none⟩)) := by
    rw [hS1.a.b.is 0 (by omega)]
    show some m.fv = _
    rw [f1]
  have e1 : w1.cell? ⟨d, 1, none⟩ = some (.pointer (some ⟨M.t, 0, none⟩)) := by
    rw [hS1.a.b.is 1 (by omega)]
    show some m.tv = _
    rw [f2]
  have e2 : w1.cell? ⟨d, 2, none⟩ = some (.pointer (some ⟨N.p, 0, none⟩)) := by
    rw [hS1.a.b.is 2 (by omega)]
    show some m.pv = _
    rw [f3]
  have hdl1 := hS1.a.b.lt
  have hxl1 := hS1.bx.lt
  have x3 : w1.cell? ⟨w.heap.size, 3, none⟩ = some (.int .i64 (C)) := hS1.bx.is 3 (by omega)
  have AD := hid (fun (w' : World) (h : Below w1.heap.size w1 w') => adv_any M X.T l1 C w' (hT.below h))
  have G1 := hid (And.intro f1 (And.intro f2 (And.intro f3 (And.intro hF hP))))
  clear f1 f2 f3 hF hT hP hS1 hw1
  first | with_reducible refine wp_region_tail_ext2 6 (by kernel_rfl) (by kernel_rfl) ?_ | refine wp_region_tail_ext 6 (by kernel_rfl) (by kernel_rfl) ?_
  simp only [List.take_succ_cons, List.take_zero, List.drop_succ_cons, List.drop_zero]
  repeat (go_big_quiet_step (fail))
  refine wpQuiet_nil ?_
  rintro _ ⟨z, rfl⟩
  go_wp2_with (first | (go_at_call 50; refine hold ?_))
  unfold Hid
  refine (AD.out _ (by (repeat (first | with_reducible exact Below.rf _ | with_reducible exact World.below_ext _ _ | with_reducible refine Below.ex ?_ _ | with_reducible refine Below.al ?_ _ | with_reducible refine Below.setCell ?_ (by simp) _ | with_reducible refine Below.drew ?_)))).mono ?_
  rintro e w2 ⟨l2, M2, rfl, hT2, hM2, -, hl2, hk2⟩
  obtain ⟨f1, f2, f3, hF, hP⟩ := G1.out
  have hbz := World.below_ext w1 z
  have S2 := hid ((S1.out.below hbz).tab hW f1 f2 f3 (hF.below hbz) (hP.below hbz) hT2 hM2 hl2 hk2)
  clear f1 f2 f3 hF hP hbz hT2 hM2 hl2 hk2 S1 G1 e0 e1 e2 hdl1 hxl1
  have hci : Hid (I64 (X.T.adv C).1) := by have := adv_c X.T C; exact ⟨by omega, by omega⟩
  clear AD x3
  go_wp2_with (first | (go_at_call 49; refine hold ?_))
  unfold Hid
  refine calls_nm fun w3 hw3 => ?_
  have B3 : Below w2.heap.size w2 w3 := by rw [hw3]; (repeat (first | with_reducible exact Below.rf _ | with_reducible exact World.below_ext _ _ | with_reducible refine Below.ex ?_ _ | with_reducible refine Below.al ?_ _ | with_reducible refine Below.setCell ?_ (by simp) _ | with_reducible refine Below.drew ?_))
  have hud : ∀ j, j < w2.heap.size → upd l2 w2.heap.size 0 j = l2 j := fun j hj => upd_ne _ _ (by omega)
  have S3 := hid ((S2.out.relab hud).below B3)
  have I3 : Hid (Ints w3 (upd l2 w2.heap.size 0) (.slice (some ⟨w2.heap.size, 0, none⟩) 1 1) [(X.T.adv C).1]) := by
    unfold Hid
    rw [hw3]
    exact (ints1 _ hci.out)
  obtain ⟨a0, a1, q3⟩ := S3.out.bq
  have k0 : w3.cell? ⟨w.heap.size + 1, 0, none⟩ = some a0 := q3.is 0 (by omega)
  have k1 : w3.cell? ⟨w.heap.size + 1, 1, none⟩ = some a1 := q3.is 1 (by omega)
  have kz0 := q3.fz 0 (by omega)
  have kz1 := q3.fz 1 (by omega)
  have kl := q3.lt
  clear B3 hud q3 hw3 S2
  refine (ok49_any _ _ _ _).mono ?_
  rintro e w4 ⟨rfl, z4, rfl⟩
  go_wp2
  refine bodyPost_ret (v := .agg #[.int .u8 0, .slice (some ⟨w2.heap.size, 0, none⟩) 1 1]) (by simp [results, Try.results12, go_sem, ↓IntWalk.iteOmega, k0, k1]) rfl ?_
  exact (do_fin S3.out hdl 0 _ _ I3.out).below (World.below_ext _ _)
theorem do_stand (d : Nat) (m : DM) (D : Dk) (o : Opr) (v : Value) (lab : Nat → Nat) (w : World) (h : DkAt w lab d m D) (hv : Ints w lab v o.l) (hK : o.K = 3) (X : Wd) (hW : D.W = some X) (hh : X.T.held ≤ X.T.cap) :
    Calls Try.prog 12 #[.pointer (some ⟨d, 0, none⟩), .agg #[.int .i64 ((o).K), .int .i64 ((o).A), .int .i64 ((o).B), .int .i64 ((o).C), .int .i64 ((o).D), .int .i64 ((o).E), v]] w (doPost lab d ({ D.no with W := some { X with T := (X.T.stand o.A o.B o.C).2 } }, 0, [(X.T.stand o.A o.B o.C).1]) w) := by
  obtain ⟨vo, vc, hvv, -⟩ := hv.ex
  have HV := hid hv
  have HD := hid h
  have hdl := h.b.lt
  have e3 : w.cell? ⟨d, 3, none⟩ = some (.bool D.ask) := h.b.is 3 (by omega)
  have y3 := h.b.fz 3 (by omega)
  obtain ⟨K, A, B, C, Dd, E, l⟩ := o
  simp only at hK
  subst hK
  have hw0 := h.wd
  rw [hW] at hw0
  obtain ⟨fb0, _, _, _, f0, -⟩ := hw0
  have e0 : w.cell? ⟨d, 0, none⟩ = some (.pointer (some ⟨fb0, 0, none⟩)) := by
    rw [h.b.is 0 (by omega)]
    show some m.fv = _
    rw [f0]
  subst hvv
  simp only at *
  obtain ⟨ln, hln⟩ : ∃ y, l.length = y := ⟨_, rfl⟩
  rw [hln] at HV ⊢
  have HLN := hid hln
  clear h hv f0 hln
  go_enter Try.func12, Try.ntmps12
  go_wp2
  refine wp_nm fun w1 hw1 => ?_
  clear e0
  obtain ⟨l1, hS1⟩ := do_start (o := ⟨3, A, B, C, Dd, E, l⟩) HD.out HV.out (.int .u8 0) (.slice none 0 0) ⟨rfl, rfl⟩ w1 hw1
  have hw := hS1.a.wd
  rw [show D.no.W = some X from hW] at hw
  obtain ⟨fb, M, N, n, f1, f2, f3, hF, hT, hP⟩ := hw
  have S1 := hid hS1
  have e0 : w1.cell? ⟨d, 0, none⟩ = some (.pointer (some ⟨fb, 0, none⟩)) := by
    rw [hS1.a.b.is 0 (by omega)]
    show some m.fv = _
    rw [f1]
  have e1 : w1.cell? ⟨d, 1, none⟩ = some (.pointer (some ⟨M.t, 0, none⟩)) := by
    rw [hS1.a.b.is 1 (by omega)]
    show some m.tv = _
    rw [f2]
  have e2 : w1.cell? ⟨d, 2, none⟩ = some (.pointer (some ⟨N.p, 0, none⟩)) := by
    rw [hS1.a.b.is 2 (by omega)]
    show some m.pv = _
    rw [f3]
  have hdl1 := hS1.a.b.lt
  have hxl1 := hS1.bx.lt
  have x1 : w1.cell? ⟨w.heap.size, 1, none⟩ = some (.int .i64 (A)) := hS1.bx.is 1 (by omega)
  have x2 : w1.cell? ⟨w.heap.size, 2, none⟩ = some (.int .i64 (B)) := hS1.bx.is 2 (by omega)
  have x3 : w1.cell? ⟨w.heap.size, 3, none⟩ = some (.int .i64 (C)) := hS1.bx.is 3 (by omega)
  have AD := hid (fun (w' : World) (h : Below w1.heap.size w1 w') => stand_any M X.T l1 A B C w' (hT.below h) hh)
  have G1 := hid (And.intro f1 (And.intro f2 (And.intro f3 (And.intro hF hP))))
  clear f1 f2 f3 hF hT hP hS1 hw1
  first | with_reducible refine wp_region_tail_ext2 10 (by kernel_rfl) (by kernel_rfl) ?_ | refine wp_region_tail_ext 10 (by kernel_rfl) (by kernel_rfl) ?_
  simp only [List.take_succ_cons, List.take_zero, List.drop_succ_cons, List.drop_zero]
  repeat (go_big_quiet_step (fail))
  refine wpQuiet_nil ?_
  rintro _ ⟨z, rfl⟩
  go_wp2_with (first | (go_at_call 48; refine hold ?_))
  unfold Hid
  refine (AD.out _ (by (repeat (first | with_reducible exact Below.rf _ | with_reducible exact World.below_ext _ _ | with_reducible refine Below.ex ?_ _ | with_reducible refine Below.al ?_ _ | with_reducible refine Below.setCell ?_ (by simp) _ | with_reducible refine Below.drew ?_)))).mono ?_
  rintro e w2 ⟨l2, M2, rfl, hT2, hM2, -, hl2, hk2⟩
  obtain ⟨f1, f2, f3, hF, hP⟩ := G1.out
  have hbz := World.below_ext w1 z
  have S2 := hid ((S1.out.below hbz).tab hW f1 f2 f3 (hF.below hbz) (hP.below hbz) hT2 hM2 hl2 hk2)
  clear f1 f2 f3 hF hP hbz hT2 hM2 hl2 hk2 S1 G1 e0 e1 e2 hdl1 hxl1
  have hci : Hid (I64 (X.T.stand A B C).1) := by have := stand_c X.T A B C; exact ⟨by omega, by omega⟩
  clear AD x1 x2 x3
  go_wp2_with (first | (go_at_call 49; refine hold ?_))
  unfold Hid
  refine calls_nm fun w3 hw3 => ?_
  have B3 : Below w2.heap.size w2 w3 := by rw [hw3]; (repeat (first | with_reducible exact Below.rf _ | with_reducible exact World.below_ext _ _ | with_reducible refine Below.ex ?_ _ | with_reducible refine Below.al ?_ _ | with_reducible refine Below.setCell ?_ (by simp) _ | with_reducible refine Below.drew ?_))
  have hud : ∀ j, j < w2.heap.size → upd l2 w2.heap.size 0 j = l2 j := fun j hj => upd_ne _ _ (by omega)
  have S3 := hid ((S2.out.relab hud).below B3)
  have I3 : Hid (Ints w3 (upd l2 w2.heap.size 0) (.slice (some ⟨w2.heap.size, 0, none⟩) 1 1) [(X.T.stand A B C).1]) := by
    unfold Hid
    rw [hw3]
    exact (ints1 _ hci.out)
  obtain ⟨a0, a1, q3⟩ := S3.out.bq
  have k0 : w3.cell? ⟨w.heap.size + 1, 0, none⟩ = some a0 := q3.is 0 (by omega)
  have k1 : w3.cell? ⟨w.heap.size + 1, 1, none⟩ = some a1 := q3.is 1 (by omega)
  have kz0 := q3.fz 0 (by omega)
  have kz1 := q3.fz 1 (by omega)
  have kl := q3.lt
  clear B3 hud q3 hw3 S2
  refine (ok49_any _ _ _ _).mono ?_
  rintro e w4 ⟨rfl, z4, rfl⟩
  go_wp2
  refine bodyPost_ret (v := .agg #[.int .u8 0, .slice (some ⟨w2.heap.size, 0, none⟩) 1 1]) (by simp [results, Try.results12, go_sem, ↓IntWalk.iteOmega, k0, k1]) rfl ?_
  exact (do_fin S3.out hdl 0 _ _ I3.out).below (World.below_ext _ _)
end Go.Proofs.Qxb6500716a
