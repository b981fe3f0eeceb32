/-
  do: Estimate.
-/
import Derived.Test.Qxb6500716aDg
namespace Go.Proofs.Qxb6500716a
open Go.RowKit Go.Maps
set_option linter.unusedSimpArgs false
set_option linter.unusedVariables false
set_option maxRecDepth 20000
set_option maxHeartbeats 4000000

/-- What an estimate answers. -/
def estAns (F : FS) (o : Opr) : Nat × List Int :=
  if o.l.length % 2 = 1 then (2, []) else if (F.park o.A).2 = false then (2, []) else if F.gcode (gls o.l) ≠ 0 then (2, [])
  else if F.valid o.B = false then (2, []) else if o.C < 0 ∨ ((gls o.l).length : Int) + 1 ≤ o.C then (2, [])
  else (0, [(F.est (F.park o.A).1 (gls o.l) o.B.toNat o.C.toNat : Int)])
/-- The estimate in its cells. -/
def estQ (fb : Nat) (F : FS) (A : Int) (gl : List (Int × Int)) (n0 : Nat) (w3 : World) (e0 e1 e2 : Value) (code : Int) : Prop :=
  (((F.park A).2 = false ∨ F.gcode gl ≠ 0) ∧ code = 2 ∧ e0 = .pointer none ∧ e1 = .slice none 0 0 ∧ e2 = .slice none 0 0) ∨ ((F.park A).2 = true ∧ F.gcode gl = 0 ∧ code = 0 ∧ e0 = .pointer (some ⟨fb, 0, none⟩) ∧ ∀ lab : Nat → Nat, (∀ k, n0 ≤ k → lab k = 0) → Ints w3 lab e1 (etl (F.park A).1 gl) ∧ Ints w3 lab e2 (eal F (F.park A).1 gl))
def edR (d xb np : Nat) (A : Int) (gv : Value) (fb : Nat) (F : FS) (gl : List (Int × Int)) (w : World) (a a' : Act) (w3 : World) : Prop :=
  ∃ (eb : Nat) (ep t1 a1 : Option Addr) (tn tc an ac : Nat) (code : Int), w.heap.size ≤ eb ∧ Below w.heap.size w w3 ∧ Blk w3 eb 3 (fc (.pointer ep) (.slice t1 tn tc) (.slice a1 an ac) undef) ∧ estQ fb F A gl w.heap.size w3 (.pointer ep) (.slice t1 tn tc) (.slice a1 an ac) code ∧
    a' = (((((((((((((a.put (some 239) (.pointer (some ⟨d, 0, none⟩))).put (some 240) (.pointer (some ⟨d, 0, none⟩))).put (some 241) (.pointer (some ⟨d, 2, none⟩))).put (some 242) (.pointer (some ⟨np, 0, none⟩))).put (some 243) (.pointer (some ⟨xb, 1, none⟩))).put (some 244) (.int .i64 (A))).put (some 245) gv).put (some 246) (.tuple #[.agg #[.pointer ep, .slice t1 tn tc, .slice a1 an ac], .int .u8 code])).put (some 238) (.tuple #[.agg #[.pointer ep, .slice t1 tn tc, .slice a1 an ac], .int .u8 code])).put (some 247) (.agg #[.pointer ep, .slice t1 tn tc, .slice a1 an ac])).put (some 248) (.int .u8 code)).put (some 17) (.pointer (some ⟨eb, 0, none⟩))).put (some 18) (.int .u8 code))
theorem estim_q {fb : Nat} {F : FS} {A : Int} {gl : List (Int × Int)} {w w' : World} {e : Ending} (h : estimPost fb F A gl w e w') : ∃ (ep t1 a1 : Option Addr) (tn tc an ac : Nat) (code : Int), e = .returned (.tuple #[.agg #[.pointer ep, .slice t1 tn tc, .slice a1 an ac], .int .u8 code]) ∧ Below w.heap.size w w' ∧ estQ fb F A gl w.heap.size w' (.pointer ep) (.slice t1 tn tc) (.slice a1 an ac) code := by
  obtain ⟨hb, h⟩ := h
  by_cases h1 : (F.park A).2 = false
  · rw [if_pos h1] at h
    exact ⟨none, none, none, 0, 0, 0, 0, 2, h, hb, Or.inl ⟨Or.inl h1, rfl, rfl, rfl, rfl⟩⟩
  · rw [if_neg h1] at h
    by_cases h2 : F.gcode gl ≠ 0
    · rw [if_pos h2] at h
      have h3 : F.gcode gl = 2 := by
        unfold FS.gcode at h2 ⊢
        split at h2
        · exact absurd rfl h2
        · rename_i h4
          rw [if_neg h4]
      rw [h3] at h
      exact ⟨none, none, none, 0, 0, 0, 0, 2, h, hb, Or.inl ⟨Or.inr h2, rfl, rfl, rfl, rfl⟩⟩
    · rw [if_neg h2] at h
      obtain ⟨tv, av, h3, h4⟩ := h
      obtain ⟨g1, g2⟩ := h4 (fun _ => 0) (fun _ _ => rfl)
      obtain ⟨to, tc, rfl, -⟩ := g1.ex
      obtain ⟨ao, ac, rfl, -⟩ := g2.ex
      exact ⟨_, _, _, _, _, _, _, 0, h3, hb, Or.inr ⟨by cases hx : (F.park A).2 <;> simp_all, by omega, rfl, rfl, h4⟩⟩
theorem estQ.mono {fb : Nat} {F : FS} {A : Int} {gl : List (Int × Int)} {n0 n1 : Nat} {w w' : World} {e0 e1 e2 : Value} {code : Int} (h : estQ fb F A gl n0 w e0 e1 e2 code) (hn : n1 ≤ n0) (hb : Below w.heap.size w w') : estQ fb F A gl n1 w' e0 e1 e2 code := by
  rcases h with h | ⟨h1, h2, h3, h4, h5⟩
  · exact Or.inl h
  · refine Or.inr ⟨h1, h2, h3, h4, fun lab hl => ?_⟩
    obtain ⟨g1, g2⟩ := h5 lab (fun k hk => hl k (by omega))
    exact ⟨g1.keptL (A := fun _ => False) (KeptL.of_below hb) (fun _ h => h.elim), g2.keptL (A := fun _ => False) (KeptL.of_below hb) (fun _ h => h.elim)⟩
theorem estQ.set {fb : Nat} {F : FS} {A : Int} {gl : List (Int × Int)} {n0 eb : Nat} {w w' : World} {e0 e1 e2 : Value} {code : Int} (h : estQ fb F A gl n0 w e0 e1 e2 code) (he : eb < n0) (n1 : Nat) (hn : n1 ≤ eb) (hk : KeptBut eb w w') : estQ fb F A gl n1 w' e0 e1 e2 code := by
  rcases h with h | ⟨h1, h2, h3, h4, h5⟩
  · exact Or.inl h
  · refine Or.inr ⟨h1, h2, h3, h4, fun lab hl => ?_⟩
    have k1 := KeptL.of_but (lab := upd lab eb 5) (A := fun x => x = 5) hk (upd_at _ _ _)
    obtain ⟨g1, g2⟩ := h5 (upd lab eb 5) (fun k hk => by rw [upd_ne _ _ (by omega)]; exact hl k (by omega))
    have rl : ∀ b, b < w'.heap.size → (upd lab eb 5 b = 0 ∨ 10 ≤ upd lab eb 5 b) → (lab b = 0 ∨ 10 ≤ lab b) := fun b _ hx => by
      by_cases e : b = eb
      · rw [e, upd_at] at hx; omega
      · rw [upd_ne _ _ e] at hx; exact hx
    exact ⟨(g1.keptL k1 (fun x hx => by omega)).relab rl, (g2.keptL k1 (fun x hx => by omega)).relab rl⟩
set_option maxHeartbeats 40000000 in
theorem do_est (d : Nat) (m : DM) (D : Dk) (o : Opr) (v : Value) (lab : Nat → Nat) (w : World) (h : DkAt w lab d m D) (hv : Ints w lab v o.l) (hO : OpI o) (hK : o.K = 7) (X : Wd) (hW : D.W = some X) :
    Calls Try.prog 12 #[.pointer (some ⟨d, 0, none⟩), .agg #[.int .i64 ((o).K), .int .i64 ((o).A), .int .i64 ((o).B), .int .i64 ((o).C), .int .i64 ((o).D), .int .i64 ((o).E), v]] w (doPost lab d (D.no, estAns X.F o) w) := by
  obtain ⟨ans, hans⟩ : ∃ y, estAns X.F o = y := ⟨_, rfl⟩
  rw [hans]
  have HANS := hid hans
  obtain ⟨post, hpo⟩ : ∃ y, doPost lab d (D.no, ans) w = y := ⟨_, rfl⟩
  rw [hpo]
  have HPO := hid hpo
  clear hans hpo
  obtain ⟨vo, vc, hvv, -⟩ := hv.ex
  have HV := hid hv
  have HD := hid h
  have hdl := h.b.lt
  have e3 : w.cell? ⟨d, 3, none⟩ = some (.bool D.ask) := h.b.is 3 (by omega)
  have y3 := h.b.fz 3 (by omega)
  obtain ⟨K, A, B, C, Dd, E, l⟩ := o
  simp only at hK
  subst hK
  have hol := hO.l
  have HI := hid hO
  have hw0 := h.wd
  rw [hW] at hw0
  obtain ⟨fb0, _, _, _, f0, -⟩ := hw0
  have e0 : w.cell? ⟨d, 0, none⟩ = some (.pointer (some ⟨fb0, 0, none⟩)) := by
    rw [h.b.is 0 (by omega)]
    show some m.fv = _
    rw [f0]
  simp only at *
  have GO := hid (fun (lb : Nat → Nat) (w' : World) (hI : Ints w' lb v l) => goals_any ⟨7, A, B, C, Dd, E, l⟩ v lb w' hI hol)
  subst hvv
  simp only at *
  obtain ⟨ln, hln⟩ : ∃ y, l.length = y := ⟨_, rfl⟩
  rw [hln] at HV GO ⊢
  have HLN := hid hln
  clear h hv f0 hln hO hol
  go_enter Try.func12, Try.ntmps12
  go_wp2_with (first | (go_at_call 26; refine hold ?_))
  unfold Hid
  refine calls_nm fun w1 hw1 => ?_
  obtain ⟨l1, hS1⟩ := do_start (o := ⟨7, A, B, C, Dd, E, l⟩) HD.out HV.out (.int .u8 0) (.slice none 0 0) ⟨rfl, rfl⟩ w1 hw1
  clear hw1 e0
  refine (GO.out l1 w1 hS1.iv).mono ?_
  rintro e w2 ⟨hb2, hr2⟩
  by_cases hodd : l.length % 2 = 1
  · rw [if_pos hodd] at hr2
    subst hr2
    have HAN : Hid (ans = (2, [])) := by
      unfold Hid
      rw [← HANS.out]
      unfold estAns
      rw [if_pos hodd]
    have S2 := hS1.below hb2
    obtain ⟨a0, a1, q3⟩ := S2.bq
    have k0 : w2.cell? ⟨w.heap.size + 1, 0, none⟩ = some a0 := q3.is 0 (by omega)
    have k1 : w2.cell? ⟨w.heap.size + 1, 1, none⟩ = some a1 := q3.is 1 (by omega)
    have kz0 := q3.fz 0 (by omega)
    have kz1 := q3.fz 1 (by omega)
    have kl := q3.lt
    have HS2 := hid S2
    clear q3 S2 hS1 hb2 GO
    go_wp2
    refine bodyPost_ret (v := .agg #[.int .u8 2, .slice none 0 0]) (by simp [results, Try.results12, go_sem, ↓IntWalk.iteOmega, k0, k1]) rfl ?_
    rw [← HPO.out, HAN.out]
    exact do_fin HS2.out hdl 2 _ [] (Ints.nil _ _)
  · rw [if_neg hodd] at hr2
    obtain ⟨gv, rfl, hgv⟩ := hr2
    have hud : ∀ j, j < w1.heap.size → (fun b => if b < w1.heap.size then l1 b else 0) j = l1 j := fun j hj => if_pos hj
    have hg2 := hgv (fun b => if b < w1.heap.size then l1 b else 0) (fun j hj => if_neg (by omega))
    have S2 := (hS1.relab hud).below hb2
    obtain ⟨l2, hl2⟩ : ∃ y, (fun b => if b < w1.heap.size then l1 b else 0) = y := ⟨_, rfl⟩
    rw [hl2] at hg2 S2
    obtain ⟨go, gc, hgo, -⟩ := hg2.ex
    subst hgo
    obtain ⟨gn, hgn⟩ : ∃ y, (gls l).length = y := ⟨_, rfl⟩
    rw [hgn] at hg2 ⊢
    have HGN := hid hgn
    have hw := S2.a.wd
    rw [show D.no.W = some X from hW] at hw
    obtain ⟨fb, M, N, n, f1, f2, f3, hF, hT, hP⟩ := hw
    have e0 : w2.cell? ⟨d, 0, none⟩ = some (.pointer (some ⟨fb, 0, none⟩)) := by
      rw [S2.a.b.is 0 (by omega)]
      show some m.fv = _
      rw [f1]
    have e2 : w2.cell? ⟨d, 2, none⟩ = some (.pointer (some ⟨N.p, 0, none⟩)) := by
      rw [S2.a.b.is 2 (by omega)]
      show some m.pv = _
      rw [f3]
    have x1 : w2.cell? ⟨w.heap.size, 1, none⟩ = some (.int .i64 (A)) := S2.bx.is 1 (by omega)
    have ES := hid (fun (w' : World) (h : Below w2.heap.size w2 w') => estim_any N X.S n fb M.t X.F l2 A (.slice go gn gc) (gls l) w' (hF.below h) (hP.below h) (hg2.below h))
    have hd2 := S2.a.b.lt
    have hxl2 := S2.bx.lt
    have HS2 := hid S2
    have HF2 := hid hF
    have HE0 := hid e0
    clear S2 hS1 hgv hud hl2 hg2 hgn f1 f2 f3 hF hT hP hb2 GO
    go_wp2
    refine region_via (edR d w.heap.size N.p A (.slice go gn gc) fb X.F (gls l) w2) ?_ ?_
    · --BEGIN 1
      refine wp_region_tree 12 (fun w' => w'.cell? ⟨d, 2, none⟩ = some (.pointer (some ⟨N.p, 0, none⟩)) ∧ w'.cell? ⟨w.heap.size, 1, none⟩ = some (.int .i64 (A))) (.q 0 false (.q 1 false (.q 2 false (.q 3 true (.q 4 false (.q 5 true (.q 6 false (.two 7 11 (.q 8 false (.q 9 false (.q 10 false (.one 11 true (.one 12 false (.q 13 false .nil)))))) (.one 7 true (.q 8 false (.q 9 false (.q 10 false (.one 12 false (.q 13 false .nil)))))))))))))) (by kernel_rfl) (by kernel_rfl) (by kernel_rfl) ?_ ?_
      · simp [go_sem, ↓IntWalk.iteOmega, *]
      repeat (first | (refine wpTr_qf (v := ?_) rfl rfl ?_ ?_; rotate_left; focus (intro w; go_simp; (try (with_reducible rfl)); done); try simp only [List.getElem_toArray, List.getElem_cons_zero, List.getElem_cons_succ, Act.put, List.setIfInBounds_toArray, List.set_cons_zero, List.set_cons_succ]) | (refine wpTr_qt (v := ?_) rfl rfl ?_ ?_; rotate_left; focus (intro w hSw; (try dsimp only at hSw); go_simp; (try (with_reducible rfl)); done); try simp only [List.getElem_toArray, List.getElem_cons_zero, List.getElem_cons_succ, Act.put, List.setIfInBounds_toArray, List.set_cons_zero, List.set_cons_succ]))
      refine wpTr_two rfl rfl rfl rfl ?_ ?_
      · intro K' hK
        go_simp
        go_at_call 27
        refine (ES.out _ (by (repeat (first | with_reducible exact Below.rf _ | with_reducible exact World.below_ext _ _ | with_reducible refine Below.ex ?_ _ | with_reducible refine Below.al ?_ _ | with_reducible refine Below.setCell ?_ (by simp) _ | with_reducible refine Below.drew ?_)))).mono ?_
        intro e w4 hpo
        obtain ⟨ep, t1, a1, tn, tc, an, ac, code, rfl, hb4, hq4⟩ := estim_q hpo
        clear hpo
        simp only [World.size_drew] at hb4 hq4
        replace hb4 : Below w2.heap.size w2 w4 := ((Below.rf w2).drew).trans hb4
        have s2 : w4.cell? ⟨d, 2, none⟩ = some (.pointer (some ⟨N.p, 0, none⟩)) := (World.cell?_of_block (hb4.block d hd2)).trans e2
        have s1 : w4.cell? ⟨w.heap.size, 1, none⟩ = some (.int .i64 (A)) := (World.cell?_of_block (hb4.block _ hxl2)).trans x1
        have hs4 := hb4.size
        refine hK.out _ _ ⟨s2, s1⟩ ?_
        have HB4 := hid hb4
        have HQ4 := hid hq4
        clear hK K' hb4 hq4 e0 e2 x1
        repeat (first | (refine wpTr_qf (v := ?_) rfl rfl ?_ ?_; rotate_left; focus (intro w; go_simp; (try (with_reducible rfl)); done); try simp only [List.getElem_toArray, List.getElem_cons_zero, List.getElem_cons_succ, Act.put, List.setIfInBounds_toArray, List.set_cons_zero, List.set_cons_succ]) | (refine wpTr_qt (v := ?_) rfl rfl ?_ ?_; rotate_left; focus (intro w hSw; (try dsimp only at hSw); go_simp; (try (with_reducible rfl)); done); try simp only [List.getElem_toArray, List.getElem_cons_zero, List.getElem_cons_succ, Act.put, List.setIfInBounds_toArray, List.set_cons_zero, List.set_cons_succ]))
        refine wpTr_one rfl rfl (fun K hK => ?_)
        go_simp
        refine hK.out _ _ (fun _ => by simp [go_sem, ↓IntWalk.iteOmega, *]) ?_
        clear hK K
        refine wpTr_one rfl rfl (fun K hK => ?_)
        go_simp
        refine hK.out _ _ (fun h => by cases h) ?_
        clear hK K
        repeat (first | (refine wpTr_qf (v := ?_) rfl rfl ?_ ?_; rotate_left; focus (intro w; go_simp; (try (with_reducible rfl)); done); try simp only [List.getElem_toArray, List.getElem_cons_zero, List.getElem_cons_succ, Act.put, List.setIfInBounds_toArray, List.set_cons_zero, List.set_cons_succ]) | (refine wpTr_qt (v := ?_) rfl rfl ?_ ?_; rotate_left; focus (intro w hSw; (try dsimp only at hSw); go_simp; (try (with_reducible rfl)); done); try simp only [List.getElem_toArray, List.getElem_cons_zero, List.getElem_cons_succ, Act.put, List.setIfInBounds_toArray, List.set_cons_zero, List.set_cons_succ]))
        refine wpTr_nil ?_
        refine NoPanic.normal ?_
        refine ⟨rfl, w4.heap.size, ep, t1, a1, tn, tc, an, ac, code, hs4, ?_, ?_, HQ4.out.mono (Nat.le_refl _) (by (repeat (first | with_reducible exact Below.rf _ | with_reducible exact World.below_ext _ _ | with_reducible refine Below.ex ?_ _ | with_reducible refine Below.al ?_ _ | with_reducible refine Below.setCell ?_ (by simp) _ | with_reducible refine Below.drew ?_))), by simp only [Act.put, List.setIfInBounds_toArray, List.set_cons_zero, List.set_cons_succ, List.getElem_toArray, List.getElem_cons_zero, List.getElem_cons_succ]⟩
        · refine HB4.out.trans ?_
          refine Below.mono ?_ hs4
          (repeat (first | with_reducible exact Below.rf _ | with_reducible exact World.below_ext _ _ | with_reducible refine Below.ex ?_ _ | with_reducible refine Below.al ?_ _ | with_reducible refine Below.setCell ?_ (by simp) _ | with_reducible refine Below.drew ?_))
        · refine ⟨by (simp <;> omega), fun i hi => ?_, fun i hi => by simp [go_sem, ↓IntWalk.iteOmega]⟩
          rcases (by omega : i = 0 ∨ i = 1 ∨ i = 2) with rfl | rfl | rfl <;> simp [go_sem, ↓IntWalk.iteOmega, fc]
      · intro K' hK
        go_simp
        refine hK.out _ _ (by simp [go_sem, ↓IntWalk.iteOmega, *]) ?_
        clear hK K'
        refine wpTr_one rfl rfl (fun K' hK => ?_)
        go_simp
        go_at_call 27
        refine calls_nm fun w3 hw3 => ?_
        have hb3 : Below w2.heap.size w2 w3 := by rw [hw3]; (repeat (first | with_reducible exact Below.rf _ | with_reducible exact World.below_ext _ _ | with_reducible refine Below.ex ?_ _ | with_reducible refine Below.al ?_ _ | with_reducible refine Below.setCell ?_ (by simp) _ | with_reducible refine Below.drew ?_))
        have hb3' : Blk w3 w2.heap.size 3 (fc (.pointer none) (.slice none 0 0) (.slice none 0 0) undef) := by
          rw [hw3]
          refine ⟨by (simp <;> omega), fun i hi => ?_, fun i hi => by simp [go_sem, ↓IntWalk.iteOmega]⟩
          rcases (by omega : i = 0 ∨ i = 1 ∨ i = 2) with rfl | rfl | rfl <;> simp [go_sem, ↓IntWalk.iteOmega, fc]
        clear hw3
        refine (ES.out _ hb3).mono ?_
        intro e w4 hpo
        obtain ⟨ep, t1, a1, tn, tc, an, ac, code, rfl, hb4, hq4⟩ := estim_q hpo
        have E4 := hb3'.below hb4
        have hlt3 := hb3'.lt
        have hb4' : Below w2.heap.size w2 w4 := hb3.trans (hb4.mono hb3.size)
        have s2 : w4.cell? ⟨d, 2, none⟩ = some (.pointer (some ⟨N.p, 0, none⟩)) := (World.cell?_of_block (hb4'.block d hd2)).trans e2
        have s1 : w4.cell? ⟨w.heap.size, 1, none⟩ = some (.int .i64 (A)) := (World.cell?_of_block (hb4'.block _ hxl2)).trans x1
        refine hK.out _ _ (fun _ => ⟨s2, s1⟩) ?_
        have HB4 := hid hb4'
        have HQ4 := hid hq4
        have HE4 := hid E4
        have v0 : w4.cell? ⟨w2.heap.size, 0, none⟩ = some (.pointer none) := E4.is 0 (by omega)
        have v1 : w4.cell? ⟨w2.heap.size, 1, none⟩ = some (.slice none 0 0) := E4.is 1 (by omega)
        have v2 : w4.cell? ⟨w2.heap.size, 2, none⟩ = some (.slice none 0 0) := E4.is 2 (by omega)
        have u0 := E4.fz 0 (by omega)
        have u1 := E4.fz 1 (by omega)
        have u2 := E4.fz 2 (by omega)
        have ul := E4.lt
        clear hK K' hb4 hq4 hpo hb3 hb3' hb4' E4 e0 e2 x1
        repeat (first | (refine wpTr_qf (v := ?_) rfl rfl ?_ ?_; rotate_left; focus (intro w; go_simp; (try (with_reducible rfl)); done); try simp only [List.getElem_toArray, List.getElem_cons_zero, List.getElem_cons_succ, Act.put, List.setIfInBounds_toArray, List.set_cons_zero, List.set_cons_succ]) | (refine wpTr_qt (v := ?_) rfl rfl ?_ ?_; rotate_left; focus (intro w hSw; (try dsimp only at hSw); go_simp; (try (with_reducible rfl)); done); try simp only [List.getElem_toArray, List.getElem_cons_zero, List.getElem_cons_succ, Act.put, List.setIfInBounds_toArray, List.set_cons_zero, List.set_cons_succ]))
        refine wpTr_one rfl rfl (fun K hK => ?_)
        go_simp
        refine hK.out _ _ (fun h => by cases h) ?_
        clear hK K
        repeat (first | (refine wpTr_qf (v := ?_) rfl rfl ?_ ?_; rotate_left; focus (intro w; go_simp; (try (with_reducible rfl)); done); try simp only [List.getElem_toArray, List.getElem_cons_zero, List.getElem_cons_succ, Act.put, List.setIfInBounds_toArray, List.set_cons_zero, List.set_cons_succ]) | (refine wpTr_qt (v := ?_) rfl rfl ?_ ?_; rotate_left; focus (intro w hSw; (try dsimp only at hSw); go_simp; (try (with_reducible rfl)); done); try simp only [List.getElem_toArray, List.getElem_cons_zero, List.getElem_cons_succ, Act.put, List.setIfInBounds_toArray, List.set_cons_zero, List.set_cons_succ]))
        refine wpTr_nil ?_
        refine NoPanic.normal ?_
        have kb : KeptBut w2.heap.size w4 (((w4.setCell ⟨w2.heap.size, 0, none⟩ (.pointer ep)).setCell ⟨w2.heap.size, 1, none⟩ (.slice t1 tn tc)).setCell ⟨w2.heap.size, 2, none⟩ (.slice a1 an ac)) := by
          refine KeptBut.set ?_ (Or.inl (by rfl)) _
          refine KeptBut.set ?_ (Or.inl (by rfl)) _
          refine KeptBut.set ?_ (Or.inl (by rfl)) _
          exact KeptBut.refl _ _
        refine ⟨rfl, w2.heap.size, ep, t1, a1, tn, tc, an, ac, code, Nat.le_refl _, ?_, ?_, HQ4.out.set hlt3 _ (Nat.le_refl _) kb, by simp only [Act.put, List.setIfInBounds_toArray, List.set_cons_zero, List.set_cons_succ, List.getElem_toArray, List.getElem_cons_zero, List.getElem_cons_succ]⟩
        · refine Below.setCell ?_ (by simp) _
          refine Below.setCell ?_ (by simp) _
          refine Below.setCell ?_ (by simp) _
          exact HB4.out
        · refine (((HE4.out.set 0 _ (by omega)).set 1 _ (by omega)).set 2 _ (by omega)).congr (fun i hi => ?_)
          rcases (by omega : i = 0 ∨ i = 1 ∨ i = 2) with rfl | rfl | rfl <;> rfl
      --END 1
    · rintro a w3 ⟨eb, ep, t1, a1, tn, tc, an, ac, code, hebs, hb3, hE3, hQ3, rfl⟩
      simp only [Act.put, List.setIfInBounds_toArray, List.set_cons_zero, List.set_cons_succ]
      clear e0 e2 x1 ES
      have hud : ∀ j, j < w2.heap.size → (fun b => if b < w2.heap.size then l2 b else 0) j = l2 j := fun j hj => if_pos hj
      have hfr : ∀ j, w2.heap.size ≤ j → (fun b => if b < w2.heap.size then l2 b else 0) j = 0 := fun j hj => if_neg (by omega)
      have S3 := (HS2.out.relab hud).below hb3
      have F3 := (HF2.out.relab (lab' := fun b => if b < w2.heap.size then l2 b else 0) (fun b hb hx => by have := hud b hb; simp only at this; rw [this]; exact hx)).below hb3
      obtain ⟨l3, hl3⟩ : ∃ y, (fun b => if b < w2.heap.size then l2 b else 0) = y := ⟨_, rfl⟩
      rw [hl3] at S3 F3 hfr
      have hw := S3.a.wd
      have e0 : w3.cell? ⟨d, 0, none⟩ = some (.pointer (some ⟨fb, 0, none⟩)) := (World.cell?_of_block (hb3.block d hd2)).trans HE0.out
      have x2 : w3.cell? ⟨w.heap.size, 2, none⟩ = some (.int .i64 (B)) := S3.bx.is 2 (by omega)
      have x3 : w3.cell? ⟨w.heap.size, 3, none⟩ = some (.int .i64 (C)) := S3.bx.is 3 (by omega)
      have g0 : w3.cell? ⟨eb, 0, none⟩ = some (.pointer ep) := hE3.is 0 (by omega)
      have g1 : w3.cell? ⟨eb, 1, none⟩ = some (.slice t1 tn tc) := hE3.is 1 (by omega)
      have g2 : w3.cell? ⟨eb, 2, none⟩ = some (.slice a1 an ac) := hE3.is 2 (by omega)
      have gl0 := hE3.lt
      have hd3 := S3.a.b.lt
      have hx3 := S3.bx.lt
      have VA := hid (fun (w' : World) (h : Below w3.heap.size w3 w') => valid_any fb X.F l3 B w' (F3.below h))
      obtain ⟨q0, q1, q3⟩ := S3.bq
      have k0 : w3.cell? ⟨w.heap.size + 1, 0, none⟩ = some q0 := q3.is 0 (by omega)
      have k1 : w3.cell? ⟨w.heap.size + 1, 1, none⟩ = some q1 := q3.is 1 (by omega)
      have kz0 := q3.fz 0 (by omega)
      have kz1 := q3.fz 1 (by omega)
      have kl := q3.lt
      have HS3 := hid S3
      have HF3 := hid F3
      clear S3 F3 hud hl3 hb3 hE3 HS2 HF2 hw q3 hebs hd2 hxl2 HE0
      rcases hQ3 with ⟨hbad, rfl, he0, he1, he2⟩ | ⟨hpk, hgc, rfl, he0, hin⟩
      · have HAN : Hid (ans = (2, [])) := by
          unfold Hid
          rw [← HANS.out]
          unfold estAns
          rw [if_neg hodd]
          by_cases hp : (X.F.park A).2 = false
          · rw [if_pos hp]
          · rw [if_neg hp, if_pos (hbad.resolve_left hp)]
        clear hbad he0 he1 he2 hfr
        go_wp2
        first | with_reducible refine wp_region_ext2 (by kernel_rfl) (by kernel_rfl) ?_ | refine wp_region_ext (by kernel_rfl) (by kernel_rfl) ?_
        repeat (go_big_quiet_step (fail))
        refine wpQuiet_nil ?_
        rintro _ ⟨z, rfl⟩
        go_wp2
        refine bodyPost_ret (v := .agg #[.int .u8 2, .slice none 0 0]) (by simp [results, Try.results12, go_sem, ↓IntWalk.iteOmega, k0, k1]) rfl ?_
        rw [← HPO.out, HAN.out]
        exact (do_fin HS3.out hdl 2 _ [] (Ints.nil _ _)).below (World.below_ext _ _)
      · simp only [Value.pointer.injEq] at he0
        subst he0
        obtain ⟨ht3, ha3⟩ := hin l3 hfr
        have LB := hid (fun (w' : World) (h : Below w3.heap.size w3 w') => labels_any fb (.slice t1 tn tc) (.slice a1 an ac) l3 (X.F.park A).1 (gls l) w' (ht3.keptL (A := fun _ => False) (KeptL.of_below h) (fun _ h => h.elim)))
        rw [HGN.out] at LB
        have d00 : ((0 : Int) != 0) = false := rfl
        cases hvB : X.F.valid B with
        | false =>
          rw [hvB] at VA
          have HAN : Hid (ans = (2, [])) := by
            unfold Hid
            rw [← HANS.out]
            unfold estAns
            rw [if_neg hodd, if_neg (by rw [hpk]; simp), if_neg (by rw [hgc]; simp), if_pos hvB]
          clear hfr hin hpk hgc ht3 ha3 hvB LB
          go_wp2
          first | with_reducible refine wp_region_ext2 (by kernel_rfl) (by kernel_rfl) ?_ | refine wp_region_ext (by kernel_rfl) (by kernel_rfl) ?_
          repeat (go_big_quiet_step ((go_at_call 53; exact Calls.ext_of_same (VA.out _ (by (repeat (first | with_reducible exact Below.rf _ | with_reducible exact World.below_ext _ _ | with_reducible refine Below.ex ?_ _ | with_reducible refine Below.al ?_ _ | with_reducible refine Below.setCell ?_ (by simp) _ | with_reducible refine Below.drew ?_)))))))
          refine wpQuiet_nil ?_
          rintro _ ⟨z, rfl⟩
          go_wp2
          refine bodyPost_ret (v := .agg #[.int .u8 2, .slice none 0 0]) (by simp [results, Try.results12, go_sem, ↓IntWalk.iteOmega, k0, k1]) rfl ?_
          rw [← HPO.out, HAN.out]
          exact (do_fin HS3.out hdl 2 _ [] (Ints.nil _ _)).below (World.below_ext _ _)
        | true =>
          rw [hvB] at VA
          have hBn := valid_in hvB
          by_cases hC0 : C < 0
          · have HAN : Hid (ans = (2, [])) := by
              unfold Hid
              rw [← HANS.out]
              unfold estAns
              rw [if_neg hodd, if_neg (by rw [hpk]; simp), if_neg (by rw [hgc]; simp), if_neg (by rw [hvB]; simp), if_pos (Or.inl hC0)]
            have dC : decide (C < 0) = true := by simp [hC0]
            clear hfr hin hpk hgc ht3 ha3 hvB LB
            go_wp2
            first | with_reducible refine wp_region_ext2 (by kernel_rfl) (by kernel_rfl) ?_ | refine wp_region_ext (by kernel_rfl) (by kernel_rfl) ?_
            repeat (go_big_quiet_step ((go_at_call 53; exact Calls.ext_of_same (VA.out _ (by (repeat (first | with_reducible exact Below.rf _ | with_reducible exact World.below_ext _ _ | with_reducible refine Below.ex ?_ _ | with_reducible refine Below.al ?_ _ | with_reducible refine Below.setCell ?_ (by simp) _ | with_reducible refine Below.drew ?_)))))))
            refine wpQuiet_nil ?_
            rintro _ ⟨z, rfl⟩
            go_wp2
            refine bodyPost_ret (v := .agg #[.int .u8 2, .slice none 0 0]) (by simp [results, Try.results12, go_sem, ↓IntWalk.iteOmega, k0, k1]) rfl ?_
            rw [← HPO.out, HAN.out]
            exact (do_fin HS3.out hdl 2 _ [] (Ints.nil _ _)).below (World.below_ext _ _)
          · have dC : decide (C < 0) = false := by simp; omega
            by_cases hC1 : (gn : Int) + 1 ≤ C
            · have HAN : Hid (ans = (2, [])) := by
                unfold Hid
                rw [← HANS.out]
                unfold estAns
                rw [if_neg hodd, if_neg (by rw [hpk]; simp), if_neg (by rw [hgc]; simp), if_neg (by rw [hvB]; simp), if_pos (Or.inr (by simp only; rw [HGN.out]; exact hC1))]
              have dC1 : decide ((gn : Int) + 1 ≤ C) = true := by simp; omega
              clear hfr hin hpk hgc ht3 ha3 hvB
              go_wp2
              first | with_reducible refine wp_region_ext2 (by kernel_rfl) (by kernel_rfl) ?_ | refine wp_region_ext (by kernel_rfl) (by kernel_rfl) ?_
              repeat (go_big_quiet_step ((first | (go_at_call 53; exact Calls.ext_of_same (VA.out _ (by (repeat (first | with_reducible exact Below.rf _ | with_reducible exact World.below_ext _ _ | with_reducible refine Below.ex ?_ _ | with_reducible refine Below.al ?_ _ | with_reducible refine Below.setCell ?_ (by simp) _ | with_reducible refine Below.drew ?_))))) | (go_at_call 29; exact Calls.ext_of (LB.out _ (by (repeat (first | with_reducible exact Below.rf _ | with_reducible exact World.below_ext _ _ | with_reducible refine Below.ex ?_ _ | with_reducible refine Below.al ?_ _ | with_reducible refine Below.setCell ?_ (by simp) _ | with_reducible refine Below.drew ?_))))))))
              refine wpQuiet_nil ?_
              rintro _ ⟨z, rfl⟩
              go_wp2
              refine bodyPost_ret (v := .agg #[.int .u8 2, .slice none 0 0]) (by simp [results, Try.results12, go_sem, ↓IntWalk.iteOmega, k0, k1]) rfl ?_
              rw [← HPO.out, HAN.out]
              exact (do_fin HS3.out hdl 2 _ [] (Ints.nil _ _)).below (World.below_ext _ _)
            · have dC1 : decide ((gn : Int) + 1 ≤ C) = false := by simp; omega
              obtain ⟨bn, rfl⟩ : ∃ bn : Nat, B = bn := ⟨B.toNat, by omega⟩
              obtain ⟨cn, rfl⟩ : ∃ cn : Nat, C = cn := ⟨C.toNat, by omega⟩
              have hok := gcode_ok.1 hgc
              have hpb : 0 ≤ (X.F.park A).1 ∧ (X.F.park A).1 < (X.F.n : Int) := by
                refine park_in HF3.out.ok ?_
                unfold FS.park at hpk
                split at hpk
                · assumption
                · cases hpk
              have hes := est_bd HF3.out.ok (bay := (X.F.park A).1) hok bn cn
              obtain ⟨ev, hev⟩ : ∃ y, X.F.est (X.F.park A).1 (gls l) bn cn = y := ⟨_, rfl⟩
              have EA := hid (fun (w' : World) (h : Below w3.heap.size w3 w') => estAt_any fb X.F (.slice t1 tn tc) (.slice a1 an ac) l3 (X.F.park A).1 (gls l) bn cn w' (HF3.out.below h) hok hpb (ht3.keptL (A := fun _ => False) (KeptL.of_below h) (fun _ h => h.elim)) (ha3.keptL (A := fun _ => False) (KeptL.of_below h) (fun _ h => h.elim)) (by omega) (by rw [HGN.out]; omega))
              rw [hev] at EA hes
              have HAN : Hid (ans = (0, [(ev : Int)])) := by
                unfold Hid
                rw [← HANS.out]
                unfold estAns
                rw [if_neg hodd, if_neg (by rw [hpk]; simp), if_neg (by rw [hgc]; simp), if_neg (by rw [hvB]; simp), if_neg (by simp only; rw [HGN.out]; omega)]
                simp only [Int.toNat_natCast]
                rw [hev]
              clear hfr hin hpk hgc ht3 ha3 hvB hok hpb hev
              go_wp2
              first | with_reducible refine wp_region_ext2 (by kernel_rfl) (by kernel_rfl) ?_ | refine wp_region_ext (by kernel_rfl) (by kernel_rfl) ?_
              repeat (go_big_quiet_step ((first | (go_at_call 53; exact Calls.ext_of_same (VA.out _ (by (repeat (first | with_reducible exact Below.rf _ | with_reducible exact World.below_ext _ _ | with_reducible refine Below.ex ?_ _ | with_reducible refine Below.al ?_ _ | with_reducible refine Below.setCell ?_ (by simp) _ | with_reducible refine Below.drew ?_))))) | (go_at_call 29; exact Calls.ext_of (LB.out _ (by (repeat (first | with_reducible exact Below.rf _ | with_reducible exact World.below_ext _ _ | with_reducible refine Below.ex ?_ _ | with_reducible refine Below.al ?_ _ | with_reducible refine Below.setCell ?_ (by simp) _ | with_reducible refine Below.drew ?_))))))))
              refine wpQuiet_nil ?_
              rintro _ ⟨z, rfl⟩
              go_wp2_with (first | (go_at_call 31; refine (EA.out _ (by (repeat (first | with_reducible exact Below.rf _ | with_reducible exact World.below_ext _ _ | with_reducible refine Below.ex ?_ _ | with_reducible refine Below.al ?_ _ | with_reducible refine Below.setCell ?_ (by simp) _ | with_reducible refine Below.drew ?_)))).mono ?_; rintro e w8 ⟨rfl, z8, rfl⟩) | (go_at_call 49; refine hold ?_))
              unfold Hid
              have hs9 : (w3.ext { heap := z.heap ++ z8.heap, tape := z8.tape, drawn := z8.drawn, os := z8.os, output := z8.output }).heap.size = w3.heap.size + (z.heap.size + z8.heap.size) := by simp
              have hb9 := World.below_ext w3 { heap := z.heap ++ z8.heap, tape := z8.tape, drawn := z8.drawn, os := z8.os, output := z8.output }
              rw [← hs9]
              clear hs9
              generalize w3.ext { heap := z.heap ++ z8.heap, tape := z8.tape, drawn := z8.drawn, os := z8.os, output := z8.output } = w9 at *
              have S9 := HS3.out.below hb9
              refine calls_nm fun wA hwA => ?_
              have BA : Below w9.heap.size w9 wA := by rw [hwA]; (repeat (first | with_reducible exact Below.rf _ | with_reducible exact World.below_ext _ _ | with_reducible refine Below.ex ?_ _ | with_reducible refine Below.al ?_ _ | with_reducible refine Below.setCell ?_ (by simp) _ | with_reducible refine Below.drew ?_))
              have hud : ∀ j, j < w9.heap.size → upd l3 w9.heap.size 0 j = l3 j := fun j hj => upd_ne _ _ (by omega)
              have SA := hid ((S9.relab hud).below BA)
              have IA : Hid (Ints wA (upd l3 w9.heap.size 0) (.slice (some ⟨w9.heap.size, 0, none⟩) 1 1) [(ev : Int)]) := by
                unfold Hid
                rw [hwA]
                exact ints1 _ ⟨by omega, by omega⟩
              clear k0 k1 kz0 kz1 kl
              obtain ⟨q4, q5, q3⟩ := SA.out.bq
              have k0 : wA.cell? ⟨w.heap.size + 1, 0, none⟩ = some q4 := q3.is 0 (by omega)
              have k1 : wA.cell? ⟨w.heap.size + 1, 1, none⟩ = some q5 := q3.is 1 (by omega)
              have kz0 := q3.fz 0 (by omega)
              have kz1 := q3.fz 1 (by omega)
              have kl := q3.lt
              clear BA hud q3 hwA S9 HS3 HF3 hb9 EA LB VA e0 x2 x3 g0 g1 g2 gl0 hd3 hx3
              refine (ok49_any _ _ _ _).mono ?_
              rintro e wB ⟨rfl, zB, rfl⟩
              go_wp2
              refine bodyPost_ret (v := .agg #[.int .u8 0, .slice (some ⟨w9.heap.size, 0, none⟩) 1 1]) (by simp [results, Try.results12, go_sem, ↓IntWalk.iteOmega, k0, k1]) rfl ?_
              rw [← HPO.out, HAN.out]
              exact (do_fin SA.out hdl 0 _ _ IA.out).below (World.below_ext _ _)
end Go.Proofs.Qxb6500716a
