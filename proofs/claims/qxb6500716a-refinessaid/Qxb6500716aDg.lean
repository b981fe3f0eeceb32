/-
  do: Search.
-/
import Derived.Test.Qxb6500716aDf
namespace Go.Proofs.Qxb6500716a
open Go.RowKit Go.Maps
set_option linter.unusedSimpArgs false
set_option linter.unusedVariables false
set_option maxRecDepth 20000
set_option maxHeartbeats 4000000
theorem ask_pl {F : FS} {T : TS} {q : Rq} {S : PS} (hF : FOk F) (hms : S.ms ≤ 4000000) : PlOk F T q (PS.ask F T q S).2 := search_pl hF hms
set_option maxHeartbeats 40000000 in
theorem do_search (d : Nat) (m : DM) (D : Dk) (o : Opr) (v : Value) (lab : Nat → Nat) (w : World) (h : DkAt w lab d m D) (hv : Ints w lab v o.l) (hO : OpI o) (hK : o.K = 6) (X : Wd) (hW : D.W = some X) (hX : Wok X) (hF0 : FOk X.F) (hB0 : X.T.base ≤ 1073741824) (hev : o.l.length % 2 ≠ 1) :
    Calls Try.prog 12 #[.pointer (some ⟨d, 0, none⟩), .agg #[.int .i64 ((o).K), .int .i64 ((o).A), .int .i64 ((o).B), .int .i64 ((o).C), .int .i64 ((o).D), .int .i64 ((o).E), v]] w (doPost lab d (⟨some ⟨X.F, X.T, (PS.ask X.F X.T (rqOf o) X.S).1⟩, true, rqOf o, (PS.ask X.F X.T (rqOf o) X.S).2⟩, plAns (PS.ask X.F X.T (rqOf o) X.S).2) w) := by
  have HPK := hid (ask_pl (T := X.T) (q := rqOf o) hF0 hX.ms)
  have HT0 : Hid ((PS.ask X.F X.T (rqOf o) X.S).2.c = 0 → -4000000000 ≤ (PS.ask X.F X.T (rqOf o) X.S).2.t ∧ (PS.ask X.F X.T (rqOf o) X.S).2.t ≤ 4000000000) := fun hc => by
    have h1 := HPK.out.c0 hc
    have h2 := (rok_of hF0 h1.1).t
    have h3 := HPK.out.t
    omega
  have HXK := hid hX
  obtain ⟨Y, hY⟩ : ∃ y, PS.ask X.F X.T (rqOf o) X.S = y := ⟨_, rfl⟩
  rw [hY] at HPK HT0 ⊢
  have HY := hid hY
  obtain ⟨S', p⟩ := Y
  simp only at HPK HT0 ⊢
  obtain ⟨ans, hans⟩ : ∃ y, plAns p = y := ⟨_, rfl⟩
  rw [hans]
  have HANS := hid hans
  obtain ⟨post, hpo⟩ : ∃ y, doPost lab d (⟨some ⟨X.F, X.T, S'⟩, true, rqOf o, p⟩, ans) w = y := ⟨_, rfl⟩
  rw [hpo]
  have HPO := hid hpo
  clear hX hY hans hpo hF0 hB0
  obtain ⟨vo, vc, hvv, -⟩ := hv.ex
  have HV := hid hv
  have HD := hid h
  have hdl := h.b.lt
  have e3 : w.cell? ⟨d, 3, none⟩ = some (.bool D.ask) := h.b.is 3 (by omega)
  have y3 := h.b.fz 3 (by omega)
  obtain ⟨K, A, B, C, Dd, E, l⟩ := o
  simp only at hK
  subst hK
  have hol := hO.l
  have HI := hid hO
  have hw0 := h.wd
  rw [hW] at hw0
  obtain ⟨fb0, _, _, _, f0, -⟩ := hw0
  have e0 : w.cell? ⟨d, 0, none⟩ = some (.pointer (some ⟨fb0, 0, none⟩)) := by
    rw [h.b.is 0 (by omega)]
    show some m.fv = _
    rw [f0]
  simp only at *
  have RQ := hid (fun (lb : Nat → Nat) (w' : World) (hI : Ints w' lb v l) => request_any ⟨6, A, B, C, Dd, E, l⟩ v lb w' hI hol)
  subst hvv
  simp only at *
  obtain ⟨ln, hln⟩ : ∃ y, l.length = y := ⟨_, rfl⟩
  rw [hln] at HV RQ hev ⊢
  have HLN := hid hln
  clear h hv f0 hln hO hol
  go_enter Try.func12, Try.ntmps12
  go_wp2_with (first | (go_at_call 33; refine hold ?_))
  unfold Hid
  refine calls_nm fun w1 hw1 => ?_
  obtain ⟨l1, hS1⟩ := do_start (o := ⟨6, A, B, C, Dd, E, l⟩) HD.out HV.out (.int .u8 0) (.slice none 0 0) ⟨rfl, rfl⟩ w1 hw1
  clear hw1 e0
  refine (RQ.out l1 w1 hS1.iv).mono ?_
  rintro e w2 ⟨hb2, hr2⟩
  rw [if_neg (by simp only; rw [HLN.out]; omega)] at hr2
  obtain ⟨gv, rfl, hgv⟩ := hr2
  have hud : ∀ j, j < w1.heap.size → (fun b => if b < w1.heap.size then l1 b else 0) j = l1 j := fun j hj => if_pos hj
  have hg2 := hgv (fun b => if b < w1.heap.size then l1 b else 0) (fun j hj => if_neg (by omega))
  have S2 := (hS1.relab hud).below hb2
  have hfr : ∀ j, w1.heap.size ≤ j → (fun b => if b < w1.heap.size then l1 b else 0) j = 0 := fun j hj => if_neg (by omega)
  obtain ⟨l2, hl2⟩ : ∃ y, (fun b => if b < w1.heap.size then l1 b else 0) = y := ⟨_, rfl⟩
  rw [hl2] at hg2 S2 hfr
  obtain ⟨go, gc, hgo, -⟩ := hg2.ex
  subst hgo
  simp only at hg2
  obtain ⟨gn, hgn⟩ : ∃ y, (gls l).length = y := ⟨_, rfl⟩
  rw [hgn] at hg2 ⊢
  have HS2 := hid S2
  have HG2 := hid hg2
  have HGN := hid hgn
  have HFR := hid hfr
  have hs12 := hb2.size
  clear hud hgv hS1 hb2 RQ S2 hg2 hl2 hgn hfr
  go_wp2
  refine wp_nm fun w3 hw3 => ?_
  have B3 : Below w2.heap.size w2 w3 := by rw [hw3]; (repeat (first | with_reducible exact Below.rf _ | with_reducible exact World.below_ext _ _ | with_reducible refine Below.ex ?_ _ | with_reducible refine Below.al ?_ _ | with_reducible refine Below.setCell ?_ (by simp) _ | with_reducible refine Below.drew ?_))
  have R3 : Blk w3 w2.heap.size 6 (qcell ⟨A, B, C, gls l, Dd, E⟩ (.slice go gn gc)) := by
    rw [hw3]
    refine ⟨by (simp <;> omega), fun i hi => ?_, fun i hi => by simp [go_sem, ↓IntWalk.iteOmega]⟩
    rcases (by omega : i = 0 ∨ i = 1 ∨ i = 2 ∨ i = 3 ∨ i = 4 ∨ i = 5) with rfl | rfl | rfl | rfl | rfl | rfl <;> simp [go_sem, ↓IntWalk.iteOmega, qcell]
  have S3 := HS2.out.below B3
  have G3 := HG2.out.below B3
  have hlr : l2 w2.heap.size = 0 := HFR.out _ (by omega)
  obtain ⟨rb, hrb⟩ : ∃ y, w2.heap.size = y := ⟨_, rfl⟩
  rw [hrb] at R3 hlr ⊢
  have hrw : w.heap.size < rb := by rw [← hrb]; exact HS2.out.bx.lt
  clear hw3 B3 HS2 HG2 HFR hrb hs12
  have t0 : (w3).cell? ⟨rb, 0, none⟩ = some (.int .i64 (A)) := (R3).is 0 (by omega)
  have t1 : (w3).cell? ⟨rb, 1, none⟩ = some (.int .i64 (B)) := (R3).is 1 (by omega)
  have t2 : (w3).cell? ⟨rb, 2, none⟩ = some (.int .i64 (C)) := (R3).is 2 (by omega)
  have t3 : (w3).cell? ⟨rb, 3, none⟩ = some (.slice go gn gc) := (R3).is 3 (by omega)
  have t4 : (w3).cell? ⟨rb, 4, none⟩ = some (.int .i64 (Dd)) := (R3).is 4 (by omega)
  have t5 : (w3).cell? ⟨rb, 5, none⟩ = some (.int .i64 (E)) := (R3).is 5 (by omega)
  have hrl := (R3).lt
  have b3 := S3.a.b.is 3 (by omega)
  have b4 := S3.a.b.is 4 (by omega)
  have b5 := S3.a.b.is 5 (by omega)
  have b6 := S3.a.b.is 6 (by omega)
  have b7 := S3.a.b.is 7 (by omega)
  have b8 := S3.a.b.is 8 (by omega)
  have b9 := S3.a.b.is 9 (by omega)
  have y3' := S3.a.b.fz 3 (by omega)
  have y4 := S3.a.b.fz 4 (by omega)
  have y5 := S3.a.b.fz 5 (by omega)
  have y6 := S3.a.b.fz 6 (by omega)
  have y7 := S3.a.b.fz 7 (by omega)
  have y8 := S3.a.b.fz 8 (by omega)
  have y9 := S3.a.b.fz 9 (by omega)
  have hd3 := S3.a.b.lt
  have HS3 := hid S3
  have HR3 := hid R3
  have HG3 := hid G3
  clear S3 R3 G3
  refine wp_region_tree 8 (fun w' => w'.cell? ⟨rb, 0, none⟩ = some (.int .i64 (A)) ∧ w'.cell? ⟨rb, 1, none⟩ = some (.int .i64 (B)) ∧ w'.cell? ⟨rb, 2, none⟩ = some (.int .i64 (C)) ∧ w'.cell? ⟨rb, 3, none⟩ = some (.slice go gn gc) ∧ w'.cell? ⟨rb, 4, none⟩ = some (.int .i64 (Dd)) ∧ w'.cell? ⟨rb, 5, none⟩ = some (.int .i64 (E))) (.q 0 false (.q 1 false (.q 2 true (.q 3 false (.q 4 false (.one 5 true (.q 6 false (.q 7 false (.one 8 false .nil))))))))) (by kernel_rfl) (by kernel_rfl) (by kernel_rfl) ?_ ?_
  · simp [go_sem, ↓IntWalk.iteOmega, *]
  repeat (first | (refine wpTr_qf (v := ?_) rfl rfl ?_ ?_; rotate_left; focus (intro w; go_simp; (try (with_reducible rfl)); done); try simp only [List.getElem_toArray, List.getElem_cons_zero, List.getElem_cons_succ, Act.put, List.setIfInBounds_toArray, List.set_cons_zero, List.set_cons_succ]) | (refine wpTr_qt (v := ?_) rfl rfl ?_ ?_; rotate_left; focus (intro w hSw; (try dsimp only at hSw); go_simp; (try (with_reducible rfl)); done); try simp only [List.getElem_toArray, List.getElem_cons_zero, List.getElem_cons_succ, Act.put, List.setIfInBounds_toArray, List.set_cons_zero, List.set_cons_succ]))
  refine wpTr_one rfl rfl (fun K hK => ?_)
  go_simp
  refine hK.out _ _ (fun _ => by simp [go_sem, ↓IntWalk.iteOmega, *]) ?_
  clear hK K
  repeat (first | (refine wpTr_qf (v := ?_) rfl rfl ?_ ?_; rotate_left; focus (intro w; go_simp; (try (with_reducible rfl)); done); try simp only [List.getElem_toArray, List.getElem_cons_zero, List.getElem_cons_succ, Act.put, List.setIfInBounds_toArray, List.set_cons_zero, List.set_cons_succ]) | (refine wpTr_qt (v := ?_) rfl rfl ?_ ?_; rotate_left; focus (intro w hSw; (try dsimp only at hSw); go_simp; (try (with_reducible rfl)); done); try simp only [List.getElem_toArray, List.getElem_cons_zero, List.getElem_cons_succ, Act.put, List.setIfInBounds_toArray, List.set_cons_zero, List.set_cons_succ]))
  refine wpTr_one rfl rfl (fun K hK => ?_)
  go_simp
  refine hK.out _ _ (fun h => by cases h) ?_
  clear hK K
  refine wpTr_nil ?_
  refine NoPanic.normal ?_
  refine x_nm fun w5 hw5 => ?_
  have S5 : DoS lab w d ⟨6, A, B, C, Dd, E, l⟩ (.slice vo ln vc) w5 l2 { m with gv := .slice go gn gc } { D.no with ask := true, q := ⟨A, B, C, gls l, Dd, E⟩ } := by
    rw [hw5]
    exact (HS3.out.req hdl ⟨A, B, C, gls l, Dd, E⟩ (.slice go gn gc) HG3.out).below ((Below.rf _).drew)
  have R5 : Blk w5 rb 6 (qcell ⟨A, B, C, gls l, Dd, E⟩ (.slice go gn gc)) := by
    rw [hw5]
    exact (HR3.out.kept (setq_kept d ⟨A, B, C, gls l, Dd, E⟩ (.slice go gn gc) w3) (by omega)).below ((Below.rf _).drew)
  clear hw5 HS3 HG3 HR3 t0 t1 t2 t3 t4 t5 hrl b3 b4 b5 b6 b7 b8 b9 y3' y4 y5 y6 y7 y8 y9 hd3
  have x0 : w5.cell? ⟨w.heap.size, 0, none⟩ = some (.int .i64 (6)) := S5.bx.is 0 (by omega)
  have hxl := S5.bx.lt
  have hd5 := S5.a.b.lt
  have HS5 := hid S5
  have HR5 := hid R5
  clear S5 R5
  have hw := HS5.out.a.wd
  rw [show (({ D.no with ask := true, q := ⟨A, B, C, gls l, Dd, E⟩ } : Dk)).W = some X from hW] at hw
  obtain ⟨fb, M, N, n, f1, f2, f3, hF, hT, hP⟩ := hw
  have e2 : w5.cell? ⟨d, 2, none⟩ = some (.pointer (some ⟨N.p, 0, none⟩)) := by
    rw [HS5.out.a.b.is 2 (by omega)]
    show some m.pv = _
    rw [← f3]
  have t0 : (w5).cell? ⟨rb, 0, none⟩ = some (.int .i64 (A)) := (HR5.out).is 0 (by omega)
  have t1 : (w5).cell? ⟨rb, 1, none⟩ = some (.int .i64 (B)) := (HR5.out).is 1 (by omega)
  have t2 : (w5).cell? ⟨rb, 2, none⟩ = some (.int .i64 (C)) := (HR5.out).is 2 (by omega)
  have t3 : (w5).cell? ⟨rb, 3, none⟩ = some (.slice go gn gc) := (HR5.out).is 3 (by omega)
  have t4 : (w5).cell? ⟨rb, 4, none⟩ = some (.int .i64 (Dd)) := (HR5.out).is 4 (by omega)
  have t5 : (w5).cell? ⟨rb, 5, none⟩ = some (.int .i64 (E)) := (HR5.out).is 5 (by omega)
  have hrl := (HR5.out).lt
  have PL := hid (fun (w' : World) (h : Below w5.heap.size w5 w') => ask_any M X.T N X.S n fb X.F l2 ⟨A, B, C, gls l, Dd, E⟩ (.slice go gn gc) w' (hF.below h) (hT.below h) (hP.below h) (HS5.out.a.g.below h) ⟨HI.out.A, HI.out.B, HI.out.C, HI.out.D, HI.out.E⟩ HXK.out.ms HXK.out.st)
  rw [show PS.ask X.F X.T ⟨A, B, C, gls l, Dd, E⟩ X.S = (S', p) from HY.out] at PL
  have G1 := hid (And.intro f1 (And.intro f2 (And.intro f3 (And.intro hF hT))))
  clear f1 f2 f3 hF hT hP
  go_wp2
  refine wp_region_tree 6 (fun w' => w'.cell? ⟨d, 2, none⟩ = some (.pointer (some ⟨N.p, 0, none⟩)) ∧ w'.cell? ⟨rb, 0, none⟩ = some (.int .i64 (A)) ∧ w'.cell? ⟨rb, 1, none⟩ = some (.int .i64 (B)) ∧ w'.cell? ⟨rb, 2, none⟩ = some (.int .i64 (C)) ∧ w'.cell? ⟨rb, 3, none⟩ = some (.slice go gn gc) ∧ w'.cell? ⟨rb, 4, none⟩ = some (.int .i64 (Dd)) ∧ w'.cell? ⟨rb, 5, none⟩ = some (.int .i64 (E))) (.q 0 false (.q 1 false (.q 2 false (.q 3 false (.q 4 true (.q 5 true (.one 6 false (.q 7 false (.q 8 false (.one 9 false .nil)))))))))) (by kernel_rfl) (by kernel_rfl) (by kernel_rfl) ?_ ?_
  · simp [go_sem, ↓IntWalk.iteOmega, *]
  repeat (first | (refine wpTr_qf (v := ?_) rfl rfl ?_ ?_; rotate_left; focus (intro w; go_simp; (try (with_reducible rfl)); done); try simp only [List.getElem_toArray, List.getElem_cons_zero, List.getElem_cons_succ, Act.put, List.setIfInBounds_toArray, List.set_cons_zero, List.set_cons_succ]) | (refine wpTr_qt (v := ?_) rfl rfl ?_ ?_; rotate_left; focus (intro w hSw; (try dsimp only at hSw); go_simp; (try (with_reducible rfl)); done); try simp only [List.getElem_toArray, List.getElem_cons_zero, List.getElem_cons_succ, Act.put, List.setIfInBounds_toArray, List.set_cons_zero, List.set_cons_succ]))
  refine wpTr_one rfl rfl (fun K hK => ?_)
  go_simp
  go_at_call 35
  refine (PL.out _ (by (repeat (first | with_reducible exact Below.rf _ | with_reducible exact World.below_ext _ _ | with_reducible refine Below.ex ?_ _ | with_reducible refine Below.al ?_ _ | with_reducible refine Below.setCell ?_ (by simp) _ | with_reducible refine Below.drew ?_)))).mono ?_
  rintro e w6 ⟨l6, N6, n6, vv, rfl, hP6, hN6, hl6, hk6', hV6⟩
  refine hK.out _ _ (fun h => by cases h) ?_
  obtain ⟨f1, f2, f3, hF, hT⟩ := G1.out
  have hbz : Below w5.heap.size w5 w5.drew := (Below.rf w5).drew
  have hk6 : KeptL l2 plnL w5.drew w6 := hk6'.mono (fun x hx => by unfold seaL at hx; unfold plnL; omega)
  have hT6 : TAt w6 l6 M X.T := ((hT.below hbz).relab hl6).keptL (hk6'.lab hl6) (by unfold seaL; omega) (by unfold seaL; omega) (by unfold seaL; omega)
  have hM6 : M.t = M.t := rfl
  clear hT hk6'
  have S6 : DoS lab w d ⟨6, A, B, C, Dd, E, l⟩ (.slice vo ln vc) w6 l6 { m with gv := .slice go gn gc } ⟨some ⟨X.F, X.T, S'⟩, true, ⟨A, B, C, gls l, Dd, E⟩, D.pl⟩ := (HS5.out.below hbz).step hl6 hk6 (wd_plan (X := X) f1 f2 f3 (hF.below hbz) hT6 hM6 hP6 hN6 hl6 hk6) ⟨rfl, rfl, rfl, rfl, rfl, rfl⟩ ⟨rfl, rfl, rfl⟩
  clear hK K f1 f2 f3 hF hbz hT6 hM6 hP6 hN6 hl6 hk6 HS5 HR5 G1 PL HY HXK t0 t1 t2 t3 t4 t5 hrl e2 x0 hxl hd5 hrw
  obtain ⟨pv, dv, hv, hi1, hi2, hnil⟩ := hV6
  obtain ⟨po, pc, hpv, -⟩ := hi1.ex
  obtain ⟨dq, dc, hdv, -⟩ := hi2.ex
  subst hv hpv hdv
  obtain ⟨c, t, path, done, x⟩ := p
  simp only at *
  obtain ⟨pn, hpn⟩ : ∃ y, path.length = y := ⟨_, rfl⟩
  obtain ⟨dn, hdn⟩ : ∃ y, done.length = y := ⟨_, rfl⟩
  rw [hpn] at hi1 hnil ⊢
  rw [hdn] at hi2 hnil ⊢
  have HPN := hid hpn
  have K6 := hid (And.intro hi1 (And.intro hi2 hnil))
  have HS6 := hid S6
  have hdx := (S6.a.b).lt
  have b10 := (S6.a.b).is 10 (by omega)
  have b11 := (S6.a.b).is 11 (by omega)
  have b12 := (S6.a.b).is 12 (by omega)
  have b13 := (S6.a.b).is 13 (by omega)
  have b14 := (S6.a.b).is 14 (by omega)
  have y10 := (S6.a.b).fz 10 (by omega)
  have y11 := (S6.a.b).fz 11 (by omega)
  have y12 := (S6.a.b).fz 12 (by omega)
  have y13 := (S6.a.b).fz 13 (by omega)
  have y14 := (S6.a.b).fz 14 (by omega)
  clear S6 hi1 hi2 hnil hpn hdn
  repeat (first | (refine wpTr_qf (v := ?_) rfl rfl ?_ ?_; rotate_left; focus (intro w; go_simp; (try (with_reducible rfl)); done); try simp only [List.getElem_toArray, List.getElem_cons_zero, List.getElem_cons_succ, Act.put, List.setIfInBounds_toArray, List.set_cons_zero, List.set_cons_succ]) | (refine wpTr_qt (v := ?_) rfl rfl ?_ ?_; rotate_left; focus (intro w hSw; (try dsimp only at hSw); go_simp; (try (with_reducible rfl)); done); try simp only [List.getElem_toArray, List.getElem_cons_zero, List.getElem_cons_succ, Act.put, List.setIfInBounds_toArray, List.set_cons_zero, List.set_cons_succ]))
  refine wpTr_one rfl rfl (fun K hK => ?_)
  go_simp
  refine hK.out _ _ (fun h => by cases h) ?_
  clear hK K
  refine wpTr_nil ?_
  refine NoPanic.normal ?_
  refine x_nm fun w7 hw7 => ?_
  obtain ⟨hi1, hi2, hnil⟩ := K6.out
  have S7 := HS6.out.plan hdl ⟨c, t, path, done, x⟩ (.slice po pn pc) (.slice dq dn dc) hi1 hi2 hnil
  simp only at S7
  rw [← hw7] at S7
  clear hw7 hi1 hi2 hnil K6 HS6 b10 b11 b12 b13 b14 y10 y11 y12 y13 y14 hdx
  have c10 : w7.cell? ⟨d, 10, none⟩ = some (.int .u8 c) := S7.a.b.is 10 (by omega)
  have c11 : w7.cell? ⟨d, 11, none⟩ = some (.int .i64 (t)) := S7.a.b.is 11 (by omega)
  have c12 : w7.cell? ⟨d, 12, none⟩ = some (.slice po pn pc) := S7.a.b.is 12 (by omega)
  have c13 : w7.cell? ⟨d, 13, none⟩ = some (.slice dq dn dc) := S7.a.b.is 13 (by omega)
  have c14 : w7.cell? ⟨d, 14, none⟩ = some (.int .i64 (x)) := S7.a.b.is 14 (by omega)
  have hd7 := S7.a.b.lt
  by_cases hc : c = 0
  · subst hc
    have ht1 : -4000000000 ≤ t ∧ t ≤ 4000000000 := HT0.out rfl
    have hpn3 : pn ≤ 256 := by rw [← HPN.out]; exact HPK.out.ln
    have HAN : Hid (ans = (0, [t + pn - 1])) := by
      unfold Hid
      rw [← HANS.out]
      unfold plAns
      rw [if_neg (by simp)]
      simp only
      rw [HPN.out]
    have AR := hid (fun (w' : World) => arrival_any 0 t x po pn pc (.slice dq dn dc) w' ht1 (by omega))
    have HS7 := hid S7
    clear S7
    go_wp2_with (first | (go_at_call 36; refine (AR.out _).mono ?_; rintro e w8 ⟨rfl, z8, rfl⟩) | (go_at_call 49; refine hold ?_))
    unfold Hid
    have S9 := HS7.out.below (World.below_ext w7 z8)
    have hs9 : (w7.ext z8).heap.size = w7.heap.size + z8.heap.size := by simp
    rw [← hs9]
    clear hs9
    generalize w7.ext z8 = w9 at *
    refine calls_nm fun wA hwA => ?_
    have BA : Below w9.heap.size w9 wA := by rw [hwA]; (repeat (first | with_reducible exact Below.rf _ | with_reducible exact World.below_ext _ _ | with_reducible refine Below.ex ?_ _ | with_reducible refine Below.al ?_ _ | with_reducible refine Below.setCell ?_ (by simp) _ | with_reducible refine Below.drew ?_))
    have hud : ∀ j, j < w9.heap.size → upd l6 w9.heap.size 0 j = l6 j := fun j hj => upd_ne _ _ (by omega)
    have SA := hid ((S9.relab hud).below BA)
    have IA : Hid (Ints wA (upd l6 w9.heap.size 0) (.slice (some ⟨w9.heap.size, 0, none⟩) 1 1) [t + pn - 1]) := by
      unfold Hid
      rw [hwA]
      exact ints1 _ ⟨by omega, by omega⟩
    obtain ⟨a0, a1, q3⟩ := SA.out.bq
    have k0 : wA.cell? ⟨w.heap.size + 1, 0, none⟩ = some a0 := q3.is 0 (by omega)
    have k1 : wA.cell? ⟨w.heap.size + 1, 1, none⟩ = some a1 := q3.is 1 (by omega)
    have kz0 := q3.fz 0 (by omega)
    have kz1 := q3.fz 1 (by omega)
    have kl := q3.lt
    clear BA hud q3 hwA S9 HS7 c10 c11 c12 c13 c14 hd7
    refine (ok49_any _ _ _ _).mono ?_
    rintro e wB ⟨rfl, zB, rfl⟩
    go_wp2
    refine bodyPost_ret (v := .agg #[.int .u8 0, .slice (some ⟨w9.heap.size, 0, none⟩) 1 1]) (by simp [results, Try.results12, go_sem, ↓IntWalk.iteOmega, k0, k1]) rfl ?_
    rw [← HPO.out, HAN.out]
    exact (do_fin SA.out hdl 0 _ _ IA.out).below (World.below_ext _ _)
  · have dc0 : ((c : Int) != 0) = true := by simp; omega
    have HAN : Hid (ans = (c, [])) := by
      unfold Hid
      rw [← HANS.out]
      unfold plAns
      rw [if_pos hc]
    obtain ⟨a0, a1, q3⟩ := S7.bq
    have k0 : w7.cell? ⟨w.heap.size + 1, 0, none⟩ = some a0 := q3.is 0 (by omega)
    have k1 : w7.cell? ⟨w.heap.size + 1, 1, none⟩ = some a1 := q3.is 1 (by omega)
    have kz0 := q3.fz 0 (by omega)
    have kz1 := q3.fz 1 (by omega)
    have kl := q3.lt
    have HS7 := hid S7
    clear S7 q3
    go_wp2
    refine bodyPost_ret (v := .agg #[.int .u8 c, .slice none 0 0]) (by simp [results, Try.results12, go_sem, ↓IntWalk.iteOmega, k0, k1]) rfl ?_
    rw [← HPO.out, HAN.out]
    exact do_fin HS7.out hdl c _ [] (Ints.nil _ _)
end Go.Proofs.Qxb6500716a
