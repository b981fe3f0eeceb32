/-
  EstimateIsAdmissibleAndConsistent: the law.
-/
import Derived.Test.Qxb6500716aLa
import Derived.Test.Qxb6500716aLk
namespace Go.Proofs.Qxb6500716a
open Go.RowKit Go.Maps
set_option linter.unusedSimpArgs false
set_option linter.unusedVariables false
set_option maxRecDepth 20000
set_option maxHeartbeats 4000000
def glOf (l : List Int) : List (Int × Int) := if l.length % 2 = 1 then [] else gls l
theorem goals_v {l : List Int} {w w' : World} {e : Ending} (h : goalsPost l w e w') : Below w.heap.size w w' ∧ ∃ (go : Option Addr) (gc : Nat) (b : Bool), e = .returned (.tuple #[.slice go (glOf l).length gc, .bool b]) ∧ ∀ lab : Nat → Nat, (∀ k, w.heap.size ≤ k → lab k = 0) → GAt w' lab (.slice go (glOf l).length gc) (glOf l) := by
  obtain ⟨hb, h⟩ := h
  refine ⟨hb, ?_⟩
  unfold glOf
  by_cases ho : l.length % 2 = 1
  · rw [if_pos ho] at h ⊢
    exact ⟨none, 0, false, h, fun lab _ => ⟨⟨none, 0, rfl, Nat.le_refl _⟩, by simp, fun c hc => by simp at hc, fun j c hj => by simp at hj⟩⟩
  · rw [if_neg ho] at h ⊢
    obtain ⟨v, h1, h2⟩ := h
    obtain ⟨go, gc, rfl, -⟩ := (h2 (fun _ => 0) (fun _ _ => rfl)).ex
    exact ⟨go, gc, true, h1, h2⟩
def e5R (d xb np : Nat) (A : Int) (gv : Value) (fb : Nat) (F : FS) (gl : List (Int × Int)) (w : World) (a a' : Act) (w3 : World) : Prop :=
  ∃ (eb : Nat) (ep t1 a1 : Option Addr) (tn tc an ac : Nat) (code : Int), w.heap.size ≤ eb ∧ Below w.heap.size w w3 ∧ Blk w3 eb 3 (fc (.pointer ep) (.slice t1 tn tc) (.slice a1 an ac) undef) ∧ estQ fb F A gl w.heap.size w3 (.pointer ep) (.slice t1 tn tc) (.slice a1 an ac) code ∧
    a' = (((((((((((((a.put (some 59) (.pointer (some ⟨d, 0, none⟩))).put (some 60) (.pointer (some ⟨d, 0, none⟩))).put (some 61) (.pointer (some ⟨d, 2, none⟩))).put (some 62) (.pointer (some ⟨np, 0, none⟩))).put (some 63) (.pointer (some ⟨xb, 1, none⟩))).put (some 64) (.int .i64 (A))).put (some 65) gv).put (some 66) (.tuple #[.agg #[.pointer ep, .slice t1 tn tc, .slice a1 an ac], .int .u8 code])).put (some 58) (.tuple #[.agg #[.pointer ep, .slice t1 tn tc, .slice a1 an ac], .int .u8 code])).put (some 67) (.agg #[.pointer ep, .slice t1 tn tc, .slice a1 an ac])).put (some 68) (.int .u8 code)).put (some 8) (.pointer (some ⟨eb, 0, none⟩))).put (some 9) (.int .u8 code))
set_option maxHeartbeats 40000000 in
theorem law5 (sb so n cap : Nat) (o : Nat → Opr) (lao : Nat → Option Addr) (lcap : Nat → Nat) (w : World) (hS : Scr w sb so n o lao lcap) (hn : n ≤ 9223372036854775807) :
    Calls Try.prog 5 #[.slice (some ⟨sb, so, none⟩) n cap] w fun e w' => e = .returned (.bool true) ∧ Below w.heap.size w w' := by
  have HS := hid hS
  have SM := hid (small_any sb so n cap o lao lcap w hS hn)
  clear hS
  go_enter Try.func5, Try.ntmps5
  go_wp2_with (go_at_call 11; refine hold ?_)
  unfold Hid
  refine SM.out.mono ?_
  rintro e w1 ⟨⟨b, rfl, hsm⟩, hw1⟩
  obtain rfl : w = w1 := hw1.symm
  clear hw1 SM
  cases b with
  | false =>
    go_wp2
    go_ret
    exact ⟨rfl, Below.rf _⟩
  | true =>
  obtain ⟨hn1, hn2⟩ := hsm rfl
  have HN2 := hid hn2
  clear hsm hn2
  go_wp2
  refine wp_nm fun w1 hw1 => ?_
  have P0 : Hid (Play w w1 (fun b => if b < w.heap.size then 0 else 1) w.heap.size 0 ⟨.pointer none, .pointer none, .pointer none, .slice none 0 0, .slice none 0 0, .slice none 0 0⟩ Dk.zero) := by
    unfold Hid
    rw [hw1]
    refine ⟨⟨⟨by (simp <;> omega), fun i hi => ?_, fun i hi => by simp [go_sem, ↓IntWalk.iteOmega]⟩, by simp, ⟨rfl, rfl, rfl⟩, ⟨⟨none, 0, rfl, Nat.le_refl _⟩, by simp [Dk.zero], fun c hc => by simp [Dk.zero] at hc, fun j c hj => by simp [Dk.zero] at hj⟩, Ints.nil _ _, Ints.nil _ _, fun h => absurd rfl h⟩, by (repeat (first | with_reducible exact Below.rf _ | with_reducible exact World.below_ext _ _ | with_reducible refine Below.ex ?_ _ | with_reducible refine Below.al ?_ _ | with_reducible refine Below.setCell ?_ (by simp) _ | with_reducible refine Below.drew ?_)), fun j hj => if_pos hj, fun X hX => by simp [Dk.zero] at hX⟩
    rcases (by omega : i = 0 ∨ i = 1 ∨ i = 2 ∨ i = 3 ∨ i = 4 ∨ i = 5 ∨ i = 6 ∨ i = 7 ∨ i = 8 ∨ i = 9 ∨ i = 10 ∨ i = 11 ∨ i = 12 ∨ i = 13 ∨ i = 14) with rfl | rfl | rfl | rfl | rfl | rfl | rfl | rfl | rfl | rfl | rfl | rfl | rfl | rfl | rfl <;> simp [go_sem, ↓IntWalk.iteOmega, dcell, Dk.zero]
  clear hw1
  obtain ⟨d, hd⟩ : ∃ y, w.heap.size = y := ⟨_, rfl⟩
  obtain ⟨l1, hl1⟩ : ∃ y, (fun b => if b < w.heap.size then 0 else 1) = y := ⟨_, rfl⟩
  rw [hl1] at P0
  clear hl1
  have hdw : w.heap.size ≤ d := by omega
  rw [hd] at P0 ⊢
  clear hd
  go_loopw [26] (fun v wr => ∃ (i : Nat) (lab : Nat → Nat) (m : DM) (D : Dk), v = .int .i64 (i) ∧ i ≤ n ∧ Play w wr lab d i m D) (fun v _ => n - (intOf v).toNat)
  case atStart => exact ⟨0, l1, _, _, rfl, Nat.zero_le _, P0.out⟩
  case round =>
    obtain ⟨i, lab, m, D, rfl, hi, hP⟩ := hrel
    clear P0 w1
    by_cases hin : i < n
    · obtain ⟨c0, c1, c2, c3, c4, c5, c6⟩ := (HS.out.below hP.bl).cells i hin
      have hsb := (HS.out.below hP.bl).hsb
      have HP := hid hP
      have di : decide ((i : Int) < (n : Int)) = true := by simp; omega
      have din : decide (i < n) = true := by simp; omega
      clear hP
      go_wp2_with (first | (go_at_call 12; refine hold ?_))
      unfold Hid
      refine calls_nm fun w4 hw4 => ?_
      have B4 : Below wr.heap.size wr w4 := by rw [hw4]; (repeat (first | with_reducible exact Below.rf _ | with_reducible exact World.below_ext _ _ | with_reducible refine Below.ex ?_ _ | with_reducible refine Below.al ?_ _ | with_reducible refine Below.setCell ?_ (by simp) _ | with_reducible refine Below.drew ?_))
      have X4 : Blk w4 wr.heap.size 7 (ocell (o i) (.slice (lao i) (o i).l.length (lcap i))) := by
        rw [hw4]
        refine ⟨by (simp <;> omega), fun i hi => ?_, fun i hi => by simp [go_sem, ↓IntWalk.iteOmega]⟩
        rcases (by omega : i = 0 ∨ i = 1 ∨ i = 2 ∨ i = 3 ∨ i = 4 ∨ i = 5 ∨ i = 6) with rfl | rfl | rfl | rfl | rfl | rfl | rfl <;> simp [go_sem, ↓IntWalk.iteOmega, ocell]
      have hud : ∀ j, j < wr.heap.size → upd lab wr.heap.size 0 j = lab j := fun j hj => upd_ne _ _ (by omega)
      have P4 := (HP.out.relab hud).below B4
      clear hw4
      refine (P4.call HS.out hin hn1 (HN2.out i hin)).mono ?_
      rintro e w5 ⟨l5, m5, av, rfl, hD5, hIv, hl5, hk5⟩
      have P5 := P4.next (o i) hD5 hl5 hk5
      have X5 := X4.keptL hk5.k (by rw [upd_at]; unfold doL; omega)
      obtain ⟨xb, hxb⟩ : ∃ y, wr.heap.size = y := ⟨_, rfl⟩
      rw [hxb] at X5 ⊢
      obtain ⟨D', hD'⟩ : ∃ y, (D.step (o i)).1 = y := ⟨_, rfl⟩
      rw [hD'] at P5
      have hol := HN2.out i hin
      have hIo : Hid (Ints w5 l5 (.slice (lao i) (o i).l.length (lcap i)) (o i).l) := ((HS.out.iv i hin).relab (lab' := l5) (fun b hb _ => Or.inl (P5.l0 b hb))).keptL (A := fun _ => False) (KeptL.of_below P5.bl) (fun _ h => h.elim)
      clear hxb hIv hD5 hl5 hk5 B4 X4 hud P4 HP c0 c1 c2 c3 c4 c5 c6 hsb hD'
      generalize o i = oi at *
      have x0 : w5.cell? ⟨xb, 0, none⟩ = some (.int .i64 (oi.K)) := X5.is 0 (by omega)
      have hxl := X5.lt
      have hdl := P5.dk.b.lt
      have d0 : w5.cell? ⟨d, 0, none⟩ = some m5.fv := P5.dk.b.is 0 (by omega)
      have HP5 := hid P5
      cases hW : D'.W with
      | none =>
        have hfv : m5.fv = .pointer none := by
          have := P5.dk.wd
          rw [hW] at this
          exact this.1
        rw [hfv] at d0
        clear P5 X5 hfv hW hIo
        go_wp2
        go_roundw
        case rel => exact ⟨i + 1, l5, m5, D', by go_num, by omega, HP5.out⟩
        case measure => (simp [intOf] <;> omega)
      | some X =>
        have hw := P5.dk.wd
        rw [hW] at hw
        obtain ⟨fb, M, N, n5, f1, f2, f3, hF, hT2, hPP⟩ := hw
        rw [f1] at d0
        by_cases h5 : oi.K = 5
        · have k5 : (oi.K != 5) = false := by simp [h5]
          --BEGIN 5
          clear h5
          have x1 : w5.cell? ⟨xb, 1, none⟩ = some (.int .i64 (oi.A)) := X5.is 1 (by omega)
          have x2 : w5.cell? ⟨xb, 2, none⟩ = some (.int .i64 (oi.B)) := X5.is 2 (by omega)
          have x3 : w5.cell? ⟨xb, 3, none⟩ = some (.int .i64 (oi.C)) := X5.is 3 (by omega)
          have x4 : w5.cell? ⟨xb, 4, none⟩ = some (.int .i64 (oi.D)) := X5.is 4 (by omega)
          have x5 : w5.cell? ⟨xb, 5, none⟩ = some (.int .i64 (oi.E)) := X5.is 5 (by omega)
          have x6 : w5.cell? ⟨xb, 6, none⟩ = some (.slice (lao i) oi.l.length (lcap i)) := X5.is 6 (by omega)
          have GO := hid (goals_any oi (.slice (lao i) oi.l.length (lcap i)) l5 w5 hIo.out hol)
          have KF := hid (And.intro f1 (And.intro f2 (And.intro f3 (And.intro hF hPP))))
          have HX5 := hid X5
          clear P5 X5 hIo f1 f2 f3 hF hT2 hPP hW
          go_wp2_with (first | (go_at_call 26; refine hold ?_))
          unfold Hid
          refine GO.out.mono ?_
          intro e w6 hgp
          obtain ⟨hb6, go, gc, gbb, rfl, hgv⟩ := goals_v hgp
          have hud : ∀ j, j < w5.heap.size → (fun b => if b < w5.heap.size then l5 b else 0) j = l5 j := fun j hj => if_pos hj
          have hG6 := hgv (fun b => if b < w5.heap.size then l5 b else 0) (fun j hj => if_neg (by omega))
          obtain ⟨f1, f2, f3, hF, hPP⟩ := KF.out
          have P6 := (HP5.out.relab hud).below hb6
          have F6 := (hF.relab (lab' := fun b => if b < w5.heap.size then l5 b else 0) (fun b hb hx => by have := hud b hb; simp only at this; rw [this]; exact hx)).below hb6
          have PP6 := (hPP.relab hud).below hb6
          have X6 := HX5.out.below hb6
          obtain ⟨l6, hl6⟩ : ∃ y, (fun b => if b < w5.heap.size then l5 b else 0) = y := ⟨_, rfl⟩
          rw [hl6] at hG6 P6 F6 PP6
          clear x0 x1 x2 x3 x4 x5 x6 hxl hdl d0 GO HP5 HX5 KF hgp hgv hud hl6 hb6 hF hPP
          have e0 : w6.cell? ⟨d, 0, none⟩ = some (.pointer (some ⟨fb, 0, none⟩)) := by
            rw [P6.dk.b.is 0 (by omega)]
            show some m5.fv = _
            rw [f1]
          have e1 : w6.cell? ⟨d, 1, none⟩ = some (.pointer (some ⟨M.t, 0, none⟩)) := by
            rw [P6.dk.b.is 1 (by omega)]
            show some m5.tv = _
            rw [f2]
          have e2 : w6.cell? ⟨d, 2, none⟩ = some (.pointer (some ⟨N.p, 0, none⟩)) := by
            rw [P6.dk.b.is 2 (by omega)]
            show some m5.pv = _
            rw [f3]
          have x1 : w6.cell? ⟨xb, 1, none⟩ = some (.int .i64 (oi.A)) := X6.is 1 (by omega)
          have hd2 := P6.dk.b.lt
          have hxl2 := X6.lt
          obtain ⟨gl, hgl⟩ : ∃ y, glOf oi.l = y := ⟨_, rfl⟩
          rw [hgl] at hG6 ⊢
          obtain ⟨gn, hgn⟩ : ∃ y, gl.length = y := ⟨_, rfl⟩
          rw [hgn] at hG6 ⊢
          have HGN := hid hgn
          have ES := hid (fun (w' : World) (h : Below w6.heap.size w6 w') => estim_any N X.S n5 fb M.t X.F l6 oi.A (.slice go gn gc) gl w' (F6.below h) (PP6.below h) (hG6.below h))
          have HG6 := hid hG6
          have HP6 := hid P6
          have HF6 := hid F6
          clear P6 F6 PP6 X6 hG6 hgl hgn f1 f2 f3
          generalize oi.A = A at *
          go_wp2
          refine region_via (e5R d xb N.p A (.slice go gn gc) fb X.F gl w6) ?_ ?_
          · --BEGIN 1
            refine wp_region_tree 12 (fun w' => w'.cell? ⟨d, 2, none⟩ = some (.pointer (some ⟨N.p, 0, none⟩)) ∧ w'.cell? ⟨xb, 1, none⟩ = some (.int .i64 (A))) (.q 0 false (.q 1 false (.q 2 false (.q 3 true (.q 4 false (.q 5 true (.q 6 false (.two 7 11 (.q 8 false (.q 9 false (.q 10 false (.one 11 true (.one 12 false (.q 13 false .nil)))))) (.one 7 true (.q 8 false (.q 9 false (.q 10 false (.one 12 false (.q 13 false .nil)))))))))))))) (by kernel_rfl) (by kernel_rfl) (by kernel_rfl) ?_ ?_
            · simp [go_sem, ↓IntWalk.iteOmega, *]
            repeat (first | (refine wpTr_qf (v := ?_) rfl rfl ?_ ?_; rotate_left; focus (intro w; go_simp; (try (with_reducible rfl)); done); try simp only [List.getElem_toArray, List.getElem_cons_zero, List.getElem_cons_succ, Act.put, List.setIfInBounds_toArray, List.set_cons_zero, List.set_cons_succ]) | (refine wpTr_qt (v := ?_) rfl rfl ?_ ?_; rotate_left; focus (intro w hSw; (try dsimp only at hSw); go_simp; (try (with_reducible rfl)); done); try simp only [List.getElem_toArray, List.getElem_cons_zero, List.getElem_cons_succ, Act.put, List.setIfInBounds_toArray, List.set_cons_zero, List.set_cons_succ]))
            refine wpTr_two rfl rfl rfl rfl ?_ ?_
            · intro K' hK
              go_simp
              go_at_call 27
              refine (ES.out _ (by (repeat (first | with_reducible exact Below.rf _ | with_reducible exact World.below_ext _ _ | with_reducible refine Below.ex ?_ _ | with_reducible refine Below.al ?_ _ | with_reducible refine Below.setCell ?_ (by simp) _ | with_reducible refine Below.drew ?_)))).mono ?_
              intro e wJ hpo
              obtain ⟨ep, t1, a1, tn, tc, an, ac, code, rfl, hb4, hq4⟩ := estim_q hpo
              clear hpo
              simp only [World.size_drew] at hb4 hq4
              replace hb4 : Below w6.heap.size w6 wJ := ((Below.rf w6).drew).trans hb4
              have s2 : wJ.cell? ⟨d, 2, none⟩ = some (.pointer (some ⟨N.p, 0, none⟩)) := (World.cell?_of_block (hb4.block d hd2)).trans e2
              have s1 : wJ.cell? ⟨xb, 1, none⟩ = some (.int .i64 (A)) := (World.cell?_of_block (hb4.block _ hxl2)).trans x1
              have hs4 := hb4.size
              refine hK.out _ _ ⟨s2, s1⟩ ?_
              have HB4 := hid hb4
              have HQ4 := hid hq4
              clear hK K' hb4 hq4 e0 e2 x1
              repeat (first | (refine wpTr_qf (v := ?_) rfl rfl ?_ ?_; rotate_left; focus (intro w; go_simp; (try (with_reducible rfl)); done); try simp only [List.getElem_toArray, List.getElem_cons_zero, List.getElem_cons_succ, Act.put, List.setIfInBounds_toArray, List.set_cons_zero, List.set_cons_succ]) | (refine wpTr_qt (v := ?_) rfl rfl ?_ ?_; rotate_left; focus (intro w hSw; (try dsimp only at hSw); go_simp; (try (with_reducible rfl)); done); try simp only [List.getElem_toArray, List.getElem_cons_zero, List.getElem_cons_succ, Act.put, List.setIfInBounds_toArray, List.set_cons_zero, List.set_cons_succ]))
              refine wpTr_one rfl rfl (fun K hK => ?_)
              go_simp
              refine hK.out _ _ (fun _ => by simp [go_sem, ↓IntWalk.iteOmega, *]) ?_
              clear hK K
              refine wpTr_one rfl rfl (fun K hK => ?_)
              go_simp
              refine hK.out _ _ (fun h => by cases h) ?_
              clear hK K
              repeat (first | (refine wpTr_qf (v := ?_) rfl rfl ?_ ?_; rotate_left; focus (intro w; go_simp; (try (with_reducible rfl)); done); try simp only [List.getElem_toArray, List.getElem_cons_zero, List.getElem_cons_succ, Act.put, List.setIfInBounds_toArray, List.set_cons_zero, List.set_cons_succ]) | (refine wpTr_qt (v := ?_) rfl rfl ?_ ?_; rotate_left; focus (intro w hSw; (try dsimp only at hSw); go_simp; (try (with_reducible rfl)); done); try simp only [List.getElem_toArray, List.getElem_cons_zero, List.getElem_cons_succ, Act.put, List.setIfInBounds_toArray, List.set_cons_zero, List.set_cons_succ]))
              refine wpTr_nil ?_
              refine NoPanic.normal ?_
              refine ⟨rfl, wJ.heap.size, ep, t1, a1, tn, tc, an, ac, code, hs4, ?_, ?_, HQ4.out.mono (Nat.le_refl _) (by (repeat (first | with_reducible exact Below.rf _ | with_reducible exact World.below_ext _ _ | with_reducible refine Below.ex ?_ _ | with_reducible refine Below.al ?_ _ | with_reducible refine Below.setCell ?_ (by simp) _ | with_reducible refine Below.drew ?_))), by simp only [Act.put, List.setIfInBounds_toArray, List.set_cons_zero, List.set_cons_succ, List.getElem_toArray, List.getElem_cons_zero, List.getElem_cons_succ]⟩
              · refine HB4.out.trans ?_
                refine Below.mono ?_ hs4
                (repeat (first | with_reducible exact Below.rf _ | with_reducible exact World.below_ext _ _ | with_reducible refine Below.ex ?_ _ | with_reducible refine Below.al ?_ _ | with_reducible refine Below.setCell ?_ (by simp) _ | with_reducible refine Below.drew ?_))
              · refine ⟨by (simp <;> omega), fun i hi => ?_, fun i hi => by simp [go_sem, ↓IntWalk.iteOmega]⟩
                rcases (by omega : i = 0 ∨ i = 1 ∨ i = 2) with rfl | rfl | rfl <;> simp [go_sem, ↓IntWalk.iteOmega, fc]
            · intro K' hK
              go_simp
              refine hK.out _ _ (by simp [go_sem, ↓IntWalk.iteOmega, *]) ?_
              clear hK K'
              refine wpTr_one rfl rfl (fun K' hK => ?_)
              go_simp
              go_at_call 27
              refine calls_nm fun wH hw3 => ?_
              have hb3 : Below w6.heap.size w6 wH := by rw [hw3]; (repeat (first | with_reducible exact Below.rf _ | with_reducible exact World.below_ext _ _ | with_reducible refine Below.ex ?_ _ | with_reducible refine Below.al ?_ _ | with_reducible refine Below.setCell ?_ (by simp) _ | with_reducible refine Below.drew ?_))
              have hb3' : Blk wH w6.heap.size 3 (fc (.pointer none) (.slice none 0 0) (.slice none 0 0) undef) := by
                rw [hw3]
                refine ⟨by (simp <;> omega), fun i hi => ?_, fun i hi => by simp [go_sem, ↓IntWalk.iteOmega]⟩
                rcases (by omega : i = 0 ∨ i = 1 ∨ i = 2) with rfl | rfl | rfl <;> simp [go_sem, ↓IntWalk.iteOmega, fc]
              clear hw3
              refine (ES.out _ hb3).mono ?_
              intro e wJ hpo
              obtain ⟨ep, t1, a1, tn, tc, an, ac, code, rfl, hb4, hq4⟩ := estim_q hpo
              have E4 := hb3'.below hb4
              have hlt3 := hb3'.lt
              have hb4' : Below w6.heap.size w6 wJ := hb3.trans (hb4.mono hb3.size)
              have s2 : wJ.cell? ⟨d, 2, none⟩ = some (.pointer (some ⟨N.p, 0, none⟩)) := (World.cell?_of_block (hb4'.block d hd2)).trans e2
              have s1 : wJ.cell? ⟨xb, 1, none⟩ = some (.int .i64 (A)) := (World.cell?_of_block (hb4'.block _ hxl2)).trans x1
              refine hK.out _ _ (fun _ => ⟨s2, s1⟩) ?_
              have HB4 := hid hb4'
              have HQ4 := hid hq4
              have HE4 := hid E4
              have v0 : wJ.cell? ⟨w6.heap.size, 0, none⟩ = some (.pointer none) := E4.is 0 (by omega)
              have v1 : wJ.cell? ⟨w6.heap.size, 1, none⟩ = some (.slice none 0 0) := E4.is 1 (by omega)
              have v2 : wJ.cell? ⟨w6.heap.size, 2, none⟩ = some (.slice none 0 0) := E4.is 2 (by omega)
              have u0 := E4.fz 0 (by omega)
              have u1 := E4.fz 1 (by omega)
              have u2 := E4.fz 2 (by omega)
              have ul := E4.lt
              clear hK K' hb4 hq4 hpo hb3 hb3' hb4' E4 e0 e2 x1
              repeat (first | (refine wpTr_qf (v := ?_) rfl rfl ?_ ?_; rotate_left; focus (intro w; go_simp; (try (with_reducible rfl)); done); try simp only [List.getElem_toArray, List.getElem_cons_zero, List.getElem_cons_succ, Act.put, List.setIfInBounds_toArray, List.set_cons_zero, List.set_cons_succ]) | (refine wpTr_qt (v := ?_) rfl rfl ?_ ?_; rotate_left; focus (intro w hSw; (try dsimp only at hSw); go_simp; (try (with_reducible rfl)); done); try simp only [List.getElem_toArray, List.getElem_cons_zero, List.getElem_cons_succ, Act.put, List.setIfInBounds_toArray, List.set_cons_zero, List.set_cons_succ]))
              refine wpTr_one rfl rfl (fun K hK => ?_)
              go_simp
              refine hK.out _ _ (fun h => by cases h) ?_
              clear hK K
              repeat (first | (refine wpTr_qf (v := ?_) rfl rfl ?_ ?_; rotate_left; focus (intro w; go_simp; (try (with_reducible rfl)); done); try simp only [List.getElem_toArray, List.getElem_cons_zero, List.getElem_cons_succ, Act.put, List.setIfInBounds_toArray, List.set_cons_zero, List.set_cons_succ]) | (refine wpTr_qt (v := ?_) rfl rfl ?_ ?_; rotate_left; focus (intro w hSw; (try dsimp only at hSw); go_simp; (try (with_reducible rfl)); done); try simp only [List.getElem_toArray, List.getElem_cons_zero, List.getElem_cons_succ, Act.put, List.setIfInBounds_toArray, List.set_cons_zero, List.set_cons_succ]))
              refine wpTr_nil ?_
              refine NoPanic.normal ?_
              have kb : KeptBut w6.heap.size wJ (((wJ.setCell ⟨w6.heap.size, 0, none⟩ (.pointer ep)).setCell ⟨w6.heap.size, 1, none⟩ (.slice t1 tn tc)).setCell ⟨w6.heap.size, 2, none⟩ (.slice a1 an ac)) := by
                refine KeptBut.set ?_ (Or.inl (by rfl)) _
                refine KeptBut.set ?_ (Or.inl (by rfl)) _
                refine KeptBut.set ?_ (Or.inl (by rfl)) _
                exact KeptBut.refl _ _
              refine ⟨rfl, w6.heap.size, ep, t1, a1, tn, tc, an, ac, code, Nat.le_refl _, ?_, ?_, HQ4.out.set hlt3 _ (Nat.le_refl _) kb, by simp only [Act.put, List.setIfInBounds_toArray, List.set_cons_zero, List.set_cons_succ, List.getElem_toArray, List.getElem_cons_zero, List.getElem_cons_succ]⟩
              · refine Below.setCell ?_ (by simp) _
                refine Below.setCell ?_ (by simp) _
                refine Below.setCell ?_ (by simp) _
                exact HB4.out
              · refine (((HE4.out.set 0 _ (by omega)).set 1 _ (by omega)).set 2 _ (by omega)).congr (fun i hi => ?_)
                rcases (by omega : i = 0 ∨ i = 1 ∨ i = 2) with rfl | rfl | rfl <;> rfl
            --END 1
          · rintro a w7 ⟨eb, ep, t1, a1, tn, tc, an, ac, code, hebs, hb7, hE7, hQ7, rfl⟩
            simp only [Act.put, List.setIfInBounds_toArray, List.set_cons_zero, List.set_cons_succ]
            rcases hQ7 with ⟨-, rfl, -⟩ | ⟨hpk, hgc, rfl, he0, hin⟩
            · have HP7 := hid (HP6.out.below hb7)
              clear hb7 hE7 ES
              go_wp2
              go_roundw
              case rel => exact ⟨i + 1, l6, m5, D', by go_num, by omega, HP7.out⟩
              case measure => (simp [intOf] <;> omega)
            · --BEGIN 3
              simp only [Value.pointer.injEq] at he0
              subst he0
              have hud : ∀ j, j < w6.heap.size → (fun b => if b < w6.heap.size then l6 b else 0) j = l6 j := fun j hj => if_pos hj
              have hin7 := hin (fun b => if b < w6.heap.size then l6 b else 0) (fun j hj => if_neg (by omega))
              have P7 := (HP6.out.relab hud).below hb7
              have F7 := (HF6.out.relab (lab' := fun b => if b < w6.heap.size then l6 b else 0) (fun b hb hx => by have := hud b hb; simp only at this; rw [this]; exact hx)).below hb7
              have G7 := (HG6.out.relab (lab' := fun b => if b < w6.heap.size then l6 b else 0) (fun b hb hx => by have := hud b hb; simp only at this; rw [this]; exact hx)).below hb7
              obtain ⟨l7, hl7⟩ : ∃ y, (fun b => if b < w6.heap.size then l6 b else 0) = y := ⟨_, rfl⟩
              rw [hl7] at hin7 P7 F7 G7
              have e0' := (World.cell?_of_block (hb7.block d hd2)).trans e0
              have e1' := (World.cell?_of_block (hb7.block d hd2)).trans e1
              have x1' := (World.cell?_of_block (hb7.block xb hxl2)).trans x1
              have hd7 : d < w7.heap.size := Nat.lt_of_lt_of_le hd2 hb7.size
              have hx7 : xb < w7.heap.size := Nat.lt_of_lt_of_le hxl2 hb7.size
              have HP7 := hid P7
              have HF7 := hid F7
              have HG7 := hid G7
              have HI7 := hid hin7
              have HE7 := hid hE7
              have hok := gcode_ok.1 hgc
              have HOK := hid hok
              have hby : 0 ≤ (X.F.park A).1 ∧ (X.F.park A).1 < (X.F.n : Int) := by
                refine park_in F7.ok ?_
                unfold FS.park at hpk
                split at hpk
                · assumption
                · cases hpk
              clear e0 e1 e2 x1 hd2 hxl2 hb7 hE7 hin hin7 hud hl7 P7 F7 G7 ES HP6 HF6 HG6 hpk hgc hok hebs
              go_wp2
              first | with_reducible refine wp_region_tail_ext2 9 (by kernel_rfl) (by kernel_rfl) ?_ | refine wp_region_tail_ext 9 (by kernel_rfl) (by kernel_rfl) ?_
              simp only [List.take_succ_cons, List.take_zero, List.drop_succ_cons, List.drop_zero]
              repeat (go_big_quiet_step (fail))
              refine wpQuiet_nil ?_
              rintro _ ⟨z, rfl⟩
              go_wp2_with (first | (go_at_call 28; refine hold ?_))
              unfold Hid
              refine calls_nm fun w8 hw8 => ?_
              have B8 : Below w7.heap.size w7 w8 := by rw [hw8]; (repeat (first | with_reducible exact Below.rf _ | with_reducible exact World.below_ext _ _ | with_reducible refine Below.ex ?_ _ | with_reducible refine Below.al ?_ _ | with_reducible refine Below.setCell ?_ (by simp) _ | with_reducible refine Below.drew ?_))
              have M8 : Blk w8 (w7.heap.size + z.heap.size) 2 (fc (.pointer (some ⟨fb, 0, none⟩)) (.pointer (some ⟨M.t, 0, none⟩)) undef undef) := by
                rw [hw8]
                refine ⟨by (simp <;> omega), fun i hi => ?_, fun i hi => by simp [go_sem, ↓IntWalk.iteOmega]⟩
                rcases (by omega : i = 0 ∨ i = 1) with rfl | rfl <;> simp [go_sem, ↓IntWalk.iteOmega, fc]
              clear hw8
              refine (remain_any _ fb X.F _ l7 A (.slice go gn gc) gl w8 (HF7.out.below B8) M8 (HG7.out.below B8) HOK.out hby).mono ?_
              rintro e w9 ⟨LB, rb, L, rfl, hRm, hLok⟩
              obtain ⟨bay, hbay⟩ : ∃ y, (X.F.park A).1 = y := ⟨_, rfl⟩
              have PK0 := hid (fun (w' : World) (h : Below w9.heap.size w9 w') => parking_any fb X.F l7 A w' (((HF7.out.below B8).below hRm.k).below h))
              obtain ⟨bbk, hbbk⟩ : ∃ y, (X.F.park A).2 = y := ⟨_, rfl⟩
              rw [hbay, hbbk] at PK0
              rw [hbay] at HI7 hby hLok
              have B9 : Below w7.heap.size w7 w9 := B8.trans (hRm.k.mono B8.size)
              have HE9 : Hid (E5 w9 l7 eb fb X.F bay gl (.slice go gn gc) (.slice t1 tn tc) (.slice a1 an ac) LB rb L d xb A) := ⟨HF7.out.below B9, HE7.out.below B9, HI7.out.1.keptL (A := fun _ => False) (KeptL.of_below B9) (fun _ h => h.elim), HI7.out.2.keptL (A := fun _ => False) (KeptL.of_below B9) (fun _ h => h.elim), HG7.out.below B9, hRm.lb.congr (fun l hl => if_pos hl), hRm.row, (World.cell?_of_block (B9.block d hd7)).trans e0', Nat.lt_of_lt_of_le hd7 B9.size, (World.cell?_of_block (B9.block xb hx7)).trans x1', Nat.lt_of_lt_of_le hx7 B9.size⟩
              have HP9 := hid (HP7.out.below B9)
              have HL := hid hLok
              have hk16 := HOK.out.1
              have hn384 := HF7.out.ok.n
              have HFO := hid HF7.out.ok
              rw [HGN.out] at hk16 ⊢
              obtain ⟨fn, hfn⟩ : ∃ y, X.F.n = y := ⟨_, rfl⟩
              rw [hfn] at hn384
              have HFN := hid hfn
              clear M8 B8 B9 hRm hLok hbay hbbk HF7 HG7 HI7 HE7 HP7 e0' e1' x1' hd7 hx7 hfn
              go_wp2
              refine lab_loop w9 l7 eb fb LB d xb gn fn gc tn tc an ac X.F bay A gl go t1 a1 rb L HE9.out HL.out HOK.out HFO.out HGN.out HFN.out hby _ _ _ _ _ _ _ _ _ _ _ _ _ _ _ _ _ _ _ _ _ _ _ _ _ _ _ _ _ _ _ _ _ _ _ _ _ _ _ _ _ _ _ _ _ _ _ _ _ _ _ _ _ _ _ _ _ _ _ _ _ _ _ _ _ _ _ _ _ _ _ _ _ _ _ _ _ _ _ _ _ _ _ _ _ _ _ _ _ _ _ _ _ _ _ _ _ _ _ _ _ _ _ _ _ _ _ _ _ _ _ _ _ _ _ _ _ _ _ _ _ _ _ _ _ _ _ _ _ _ _ _ _ _ _ _ _ _ _ _ _ _ _ _ _ _ _ _ _ _ _ _ _ _ _ _ _ _ _ _ _ _ _ _ _ _ _ _ _ _ _ _ _ _ _ _ _ ?_
              intro aL wr hE
              obtain ⟨hBL, hE⟩ := hE
              obtain ⟨u2, hE⟩ := hE
              obtain ⟨u12, hE⟩ := hE
              obtain ⟨u13, hE⟩ := hE
              obtain ⟨u14, hE⟩ := hE
              obtain ⟨u16, hE⟩ := hE
              obtain ⟨u86, hE⟩ := hE
              obtain ⟨u87, hE⟩ := hE
              obtain ⟨u88, hE⟩ := hE
              obtain ⟨u89, hE⟩ := hE
              obtain ⟨u90, hE⟩ := hE
              obtain ⟨u91, hE⟩ := hE
              obtain ⟨u92, hE⟩ := hE
              obtain ⟨u93, hE⟩ := hE
              obtain ⟨u94, hE⟩ := hE
              obtain ⟨u95, hE⟩ := hE
              obtain ⟨u96, hE⟩ := hE
              obtain ⟨u97, hE⟩ := hE
              obtain ⟨u98, hE⟩ := hE
              obtain ⟨u99, hE⟩ := hE
              obtain ⟨u100, hE⟩ := hE
              obtain ⟨u101, hE⟩ := hE
              obtain ⟨u102, hE⟩ := hE
              obtain ⟨u103, hE⟩ := hE
              obtain ⟨u104, hE⟩ := hE
              obtain ⟨u105, hE⟩ := hE
              obtain ⟨u106, hE⟩ := hE
              obtain ⟨u107, hE⟩ := hE
              obtain ⟨u108, hE⟩ := hE
              obtain ⟨u109, hE⟩ := hE
              obtain ⟨u110, hE⟩ := hE
              obtain ⟨u111, hE⟩ := hE
              obtain ⟨u112, hE⟩ := hE
              obtain ⟨u113, hE⟩ := hE
              obtain ⟨u114, hE⟩ := hE
              obtain ⟨u115, hE⟩ := hE
              obtain ⟨u116, hE⟩ := hE
              obtain ⟨u117, hE⟩ := hE
              obtain ⟨u118, hE⟩ := hE
              obtain ⟨u119, hE⟩ := hE
              obtain ⟨u120, hE⟩ := hE
              obtain ⟨u121, hE⟩ := hE
              obtain ⟨u122, hE⟩ := hE
              obtain ⟨u123, hE⟩ := hE
              obtain ⟨u124, hE⟩ := hE
              obtain ⟨u125, hE⟩ := hE
              obtain ⟨u126, hE⟩ := hE
              obtain ⟨u127, hE⟩ := hE
              obtain ⟨u128, hE⟩ := hE
              obtain ⟨u129, hE⟩ := hE
              obtain ⟨u130, hE⟩ := hE
              obtain ⟨u131, hE⟩ := hE
              obtain ⟨u132, hE⟩ := hE
              obtain ⟨u133, hE⟩ := hE
              obtain ⟨u134, hE⟩ := hE
              obtain ⟨u135, hE⟩ := hE
              obtain ⟨u136, hE⟩ := hE
              obtain ⟨u137, hE⟩ := hE
              obtain ⟨u138, hE⟩ := hE
              obtain ⟨u139, hE⟩ := hE
              obtain ⟨u140, hE⟩ := hE
              obtain ⟨u141, hE⟩ := hE
              obtain ⟨u142, hE⟩ := hE
              obtain ⟨u143, hE⟩ := hE
              obtain ⟨u144, hE⟩ := hE
              obtain ⟨u145, hE⟩ := hE
              obtain ⟨u146, hE⟩ := hE
              obtain ⟨u147, hE⟩ := hE
              obtain ⟨u148, hE⟩ := hE
              obtain ⟨u149, hE⟩ := hE
              obtain ⟨u150, hE⟩ := hE
              obtain ⟨u151, hE⟩ := hE
              obtain ⟨u152, hE⟩ := hE
              obtain ⟨u153, hE⟩ := hE
              obtain ⟨u154, hE⟩ := hE
              obtain ⟨u155, hE⟩ := hE
              obtain ⟨u156, hE⟩ := hE
              obtain ⟨u157, hE⟩ := hE
              obtain ⟨u158, hE⟩ := hE
              obtain ⟨u159, hE⟩ := hE
              obtain ⟨u160, hE⟩ := hE
              obtain ⟨u161, hE⟩ := hE
              obtain ⟨u162, hE⟩ := hE
              obtain ⟨u163, hE⟩ := hE
              obtain ⟨u164, hE⟩ := hE
              subst hE
              have HB := hid hBL
              have HE := hid (HE9.out.below hBL)
              clear hBL
              have g0 : (wr).cell? ⟨eb, 0, none⟩ = some (.pointer (some ⟨fb, 0, none⟩)) := HE.out.e.is 0 (by omega)
              have g1 : (wr).cell? ⟨eb, 1, none⟩ = some (.slice t1 tn tc) := HE.out.e.is 1 (by omega)
              have g2 : (wr).cell? ⟨eb, 2, none⟩ = some (.slice a1 an ac) := HE.out.e.is 2 (by omega)
              have gl0 := HE.out.e.lt
              have e0 := HE.out.d0
              have hdx := HE.out.dl
              have x1 := HE.out.x1
              have hxx := HE.out.xl
              obtain ⟨bn, rfl⟩ : ∃ bn : Nat, bay = bn := ⟨bay.toNat, by omega⟩
              have hho := est_home HFO.out (bn : Int) gl
              rw [Int.toNat_natCast, HGN.out] at hho
              have EA0 : Hid (∀ w' : World, Below wr.heap.size wr w' → Calls Try.prog 31 #[.agg #[.pointer (some ⟨fb, 0, none⟩), .slice t1 tn tc, .slice a1 an ac], .int .i64 (bn), .int .i64 (gn)] w' fun e w'' => e = .returned (.int .i64 (0)) ∧ ∃ z, w'' = w'.ext z) := fun w' h => by
                have := estAt_any fb X.F (.slice t1 tn tc) (.slice a1 an ac) l7 bn gl bn gn w' (HE.out.below h).f HOK.out hby (HE.out.below h).t (HE.out.below h).a (by omega) (by rw [HGN.out]; omega)
                rw [hho] at this
                exact this
              have PK5 := hid (fun (w' : World) (h : Below wr.heap.size wr w') => PK0.out w' (HB.out.trans (h.mono HB.out.size)))
              go_wp2
              first | with_reducible refine wp_region_ext2 (by kernel_rfl) (by kernel_rfl) ?_ | refine wp_region_ext (by kernel_rfl) (by kernel_rfl) ?_
              repeat (go_big_quiet_step ((go_at_call 20; exact Calls.ext_of_same (PK5.out _ (by (repeat (first | with_reducible exact Below.rf _ | with_reducible exact World.below_ext _ _ | with_reducible refine Below.ex ?_ _ | with_reducible refine Below.al ?_ _ | with_reducible refine Below.setCell ?_ (by simp) _ | with_reducible refine Below.drew ?_)))))))
              refine wpQuiet_nil ?_
              rintro _ ⟨z, rfl⟩
              go_wp2_with (first | (go_at_call 31; refine (EA0.out _ (by (repeat (first | with_reducible exact Below.rf _ | with_reducible exact World.below_ext _ _ | with_reducible refine Below.ex ?_ _ | with_reducible refine Below.al ?_ _ | with_reducible refine Below.setCell ?_ (by simp) _ | with_reducible refine Below.drew ?_)))).mono ?_; rintro e w' ⟨rfl, zz, rfl⟩))
              go_roundw
              case rel =>
                refine ⟨i + 1, l7, m5, D', by go_num, by omega, HP9.out.below ?_⟩
                refine HB.out.trans (Below.mono ?_ HB.out.size)
                (repeat (first | with_reducible exact Below.rf _ | with_reducible exact World.below_ext _ _ | with_reducible refine Below.ex ?_ _ | with_reducible refine Below.al ?_ _ | with_reducible refine Below.setCell ?_ (by simp) _ | with_reducible refine Below.drew ?_))
              case measure => (simp [intOf] <;> omega)
              --END 3
          --END 5
        · have k5 : (oi.K != 5) = true := by simp [h5]
          by_cases h6 : oi.K = 6
          · have k6 : (oi.K != 6) = false := by simp [h6]
            --BEGIN 6
            clear h6
            have x1 : w5.cell? ⟨xb, 1, none⟩ = some (.int .i64 (oi.A)) := X5.is 1 (by omega)
            have x2 : w5.cell? ⟨xb, 2, none⟩ = some (.int .i64 (oi.B)) := X5.is 2 (by omega)
            have x3 : w5.cell? ⟨xb, 3, none⟩ = some (.int .i64 (oi.C)) := X5.is 3 (by omega)
            have x4 : w5.cell? ⟨xb, 4, none⟩ = some (.int .i64 (oi.D)) := X5.is 4 (by omega)
            have x5 : w5.cell? ⟨xb, 5, none⟩ = some (.int .i64 (oi.E)) := X5.is 5 (by omega)
            have x6 : w5.cell? ⟨xb, 6, none⟩ = some (.slice (lao i) oi.l.length (lcap i)) := X5.is 6 (by omega)
            have GO := hid (goals_any oi (.slice (lao i) oi.l.length (lcap i)) l5 w5 hIo.out hol)
            have KF := hid (And.intro f1 (And.intro f2 (And.intro f3 (And.intro hF hPP))))
            have HX5 := hid X5
            clear P5 X5 hIo f1 f2 f3 hF hT2 hPP hW
            go_wp2_with (first | (go_at_call 26; refine hold ?_))
            unfold Hid
            refine GO.out.mono ?_
            intro e w6 hgp
            obtain ⟨hb6, go, gc, gbb, rfl, hgv⟩ := goals_v hgp
            have hud : ∀ j, j < w5.heap.size → (fun b => if b < w5.heap.size then l5 b else 0) j = l5 j := fun j hj => if_pos hj
            have hG6 := hgv (fun b => if b < w5.heap.size then l5 b else 0) (fun j hj => if_neg (by omega))
            obtain ⟨f1, f2, f3, hF, hPP⟩ := KF.out
            have P6 := (HP5.out.relab hud).below hb6
            have F6 := (hF.relab (lab' := fun b => if b < w5.heap.size then l5 b else 0) (fun b hb hx => by have := hud b hb; simp only at this; rw [this]; exact hx)).below hb6
            have PP6 := (hPP.relab hud).below hb6
            have X6 := HX5.out.below hb6
            obtain ⟨l6, hl6⟩ : ∃ y, (fun b => if b < w5.heap.size then l5 b else 0) = y := ⟨_, rfl⟩
            rw [hl6] at hG6 P6 F6 PP6
            clear x0 x1 x2 x3 x4 x5 x6 hxl hdl d0 GO HP5 HX5 KF hgp hgv hud hl6 hb6 hF hPP
            have e0 : w6.cell? ⟨d, 0, none⟩ = some (.pointer (some ⟨fb, 0, none⟩)) := by
              rw [P6.dk.b.is 0 (by omega)]
              show some m5.fv = _
              rw [f1]
            have e1 : w6.cell? ⟨d, 1, none⟩ = some (.pointer (some ⟨M.t, 0, none⟩)) := by
              rw [P6.dk.b.is 1 (by omega)]
              show some m5.tv = _
              rw [f2]
            have e2 : w6.cell? ⟨d, 2, none⟩ = some (.pointer (some ⟨N.p, 0, none⟩)) := by
              rw [P6.dk.b.is 2 (by omega)]
              show some m5.pv = _
              rw [f3]
            have x1 : w6.cell? ⟨xb, 1, none⟩ = some (.int .i64 (oi.A)) := X6.is 1 (by omega)
            have hd2 := P6.dk.b.lt
            have hxl2 := X6.lt
            obtain ⟨gl, hgl⟩ : ∃ y, glOf oi.l = y := ⟨_, rfl⟩
            rw [hgl] at hG6 ⊢
            obtain ⟨gn, hgn⟩ : ∃ y, gl.length = y := ⟨_, rfl⟩
            rw [hgn] at hG6 ⊢
            have HGN := hid hgn
            have ES := hid (fun (w' : World) (h : Below w6.heap.size w6 w') => estim_any N X.S n5 fb M.t X.F l6 oi.A (.slice go gn gc) gl w' (F6.below h) (PP6.below h) (hG6.below h))
            have HG6 := hid hG6
            have HP6 := hid P6
            have HF6 := hid F6
            clear P6 F6 PP6 X6 hG6 hgl hgn f1 f2 f3
            generalize oi.A = A at *
            go_wp2
            refine region_via (e5R d xb N.p A (.slice go gn gc) fb X.F gl w6) ?_ ?_
            · --BEGIN 1
              refine wp_region_tree 12 (fun w' => w'.cell? ⟨d, 2, none⟩ = some (.pointer (some ⟨N.p, 0, none⟩)) ∧ w'.cell? ⟨xb, 1, none⟩ = some (.int .i64 (A))) (.q 0 false (.q 1 false (.q 2 false (.q 3 true (.q 4 false (.q 5 true (.q 6 false (.two 7 11 (.q 8 false (.q 9 false (.q 10 false (.one 11 true (.one 12 false (.q 13 false .nil)))))) (.one 7 true (.q 8 false (.q 9 false (.q 10 false (.one 12 false (.q 13 false .nil)))))))))))))) (by kernel_rfl) (by kernel_rfl) (by kernel_rfl) ?_ ?_
              · simp [go_sem, ↓IntWalk.iteOmega, *]
              repeat (first | (refine wpTr_qf (v := ?_) rfl rfl ?_ ?_; rotate_left; focus (intro w; go_simp; (try (with_reducible rfl)); done); try simp only [List.getElem_toArray, List.getElem_cons_zero, List.getElem_cons_succ, Act.put, List.setIfInBounds_toArray, List.set_cons_zero, List.set_cons_succ]) | (refine wpTr_qt (v := ?_) rfl rfl ?_ ?_; rotate_left; focus (intro w hSw; (try dsimp only at hSw); go_simp; (try (with_reducible rfl)); done); try simp only [List.getElem_toArray, List.getElem_cons_zero, List.getElem_cons_succ, Act.put, List.setIfInBounds_toArray, List.set_cons_zero, List.set_cons_succ]))
              refine wpTr_two rfl rfl rfl rfl ?_ ?_
              · intro K' hK
                go_simp
                go_at_call 27
                refine (ES.out _ (by (repeat (first | with_reducible exact Below.rf _ | with_reducible exact World.below_ext _ _ | with_reducible refine Below.ex ?_ _ | with_reducible refine Below.al ?_ _ | with_reducible refine Below.setCell ?_ (by simp) _ | with_reducible refine Below.drew ?_)))).mono ?_
                intro e wJ hpo
                obtain ⟨ep, t1, a1, tn, tc, an, ac, code, rfl, hb4, hq4⟩ := estim_q hpo
                clear hpo
                simp only [World.size_drew] at hb4 hq4
                replace hb4 : Below w6.heap.size w6 wJ := ((Below.rf w6).drew).trans hb4
                have s2 : wJ.cell? ⟨d, 2, none⟩ = some (.pointer (some ⟨N.p, 0, none⟩)) := (World.cell?_of_block (hb4.block d hd2)).trans e2
                have s1 : wJ.cell? ⟨xb, 1, none⟩ = some (.int .i64 (A)) := (World.cell?_of_block (hb4.block _ hxl2)).trans x1
                have hs4 := hb4.size
                refine hK.out _ _ ⟨s2, s1⟩ ?_
                have HB4 := hid hb4
                have HQ4 := hid hq4
                clear hK K' hb4 hq4 e0 e2 x1
                repeat (first | (refine wpTr_qf (v := ?_) rfl rfl ?_ ?_; rotate_left; focus (intro w; go_simp; (try (with_reducible rfl)); done); try simp only [List.getElem_toArray, List.getElem_cons_zero, List.getElem_cons_succ, Act.put, List.setIfInBounds_toArray, List.set_cons_zero, List.set_cons_succ]) | (refine wpTr_qt (v := ?_) rfl rfl ?_ ?_; rotate_left; focus (intro w hSw; (try dsimp only at hSw); go_simp; (try (with_reducible rfl)); done); try simp only [List.getElem_toArray, List.getElem_cons_zero, List.getElem_cons_succ, Act.put, List.setIfInBounds_toArray, List.set_cons_zero, List.set_cons_succ]))
                refine wpTr_one rfl rfl (fun K hK => ?_)
                go_simp
                refine hK.out _ _ (fun _ => by simp [go_sem, ↓IntWalk.iteOmega, *]) ?_
                clear hK K
                refine wpTr_one rfl rfl (fun K hK => ?_)
                go_simp
                refine hK.out _ _ (fun h => by cases h) ?_
                clear hK K
                repeat (first | (refine wpTr_qf (v := ?_) rfl rfl ?_ ?_; rotate_left; focus (intro w; go_simp; (try (with_reducible rfl)); done); try simp only [List.getElem_toArray, List.getElem_cons_zero, List.getElem_cons_succ, Act.put, List.setIfInBounds_toArray, List.set_cons_zero, List.set_cons_succ]) | (refine wpTr_qt (v := ?_) rfl rfl ?_ ?_; rotate_left; focus (intro w hSw; (try dsimp only at hSw); go_simp; (try (with_reducible rfl)); done); try simp only [List.getElem_toArray, List.getElem_cons_zero, List.getElem_cons_succ, Act.put, List.setIfInBounds_toArray, List.set_cons_zero, List.set_cons_succ]))
                refine wpTr_nil ?_
                refine NoPanic.normal ?_
                refine ⟨rfl, wJ.heap.size, ep, t1, a1, tn, tc, an, ac, code, hs4, ?_, ?_, HQ4.out.mono (Nat.le_refl _) (by (repeat (first | with_reducible exact Below.rf _ | with_reducible exact World.below_ext _ _ | with_reducible refine Below.ex ?_ _ | with_reducible refine Below.al ?_ _ | with_reducible refine Below.setCell ?_ (by simp) _ | with_reducible refine Below.drew ?_))), by simp only [Act.put, List.setIfInBounds_toArray, List.set_cons_zero, List.set_cons_succ, List.getElem_toArray, List.getElem_cons_zero, List.getElem_cons_succ]⟩
                · refine HB4.out.trans ?_
                  refine Below.mono ?_ hs4
                  (repeat (first | with_reducible exact Below.rf _ | with_reducible exact World.below_ext _ _ | with_reducible refine Below.ex ?_ _ | with_reducible refine Below.al ?_ _ | with_reducible refine Below.setCell ?_ (by simp) _ | with_reducible refine Below.drew ?_))
                · refine ⟨by (simp <;> omega), fun i hi => ?_, fun i hi => by simp [go_sem, ↓IntWalk.iteOmega]⟩
                  rcases (by omega : i = 0 ∨ i = 1 ∨ i = 2) with rfl | rfl | rfl <;> simp [go_sem, ↓IntWalk.iteOmega, fc]
              · intro K' hK
                go_simp
                refine hK.out _ _ (by simp [go_sem, ↓IntWalk.iteOmega, *]) ?_
                clear hK K'
                refine wpTr_one rfl rfl (fun K' hK => ?_)
                go_simp
                go_at_call 27
                refine calls_nm fun wH hw3 => ?_
                have hb3 : Below w6.heap.size w6 wH := by rw [hw3]; (repeat (first | with_reducible exact Below.rf _ | with_reducible exact World.below_ext _ _ | with_reducible refine Below.ex ?_ _ | with_reducible refine Below.al ?_ _ | with_reducible refine Below.setCell ?_ (by simp) _ | with_reducible refine Below.drew ?_))
                have hb3' : Blk wH w6.heap.size 3 (fc (.pointer none) (.slice none 0 0) (.slice none 0 0) undef) := by
                  rw [hw3]
                  refine ⟨by (simp <;> omega), fun i hi => ?_, fun i hi => by simp [go_sem, ↓IntWalk.iteOmega]⟩
                  rcases (by omega : i = 0 ∨ i = 1 ∨ i = 2) with rfl | rfl | rfl <;> simp [go_sem, ↓IntWalk.iteOmega, fc]
                clear hw3
                refine (ES.out _ hb3).mono ?_
                intro e wJ hpo
                obtain ⟨ep, t1, a1, tn, tc, an, ac, code, rfl, hb4, hq4⟩ := estim_q hpo
                have E4 := hb3'.below hb4
                have hlt3 := hb3'.lt
                have hb4' : Below w6.heap.size w6 wJ := hb3.trans (hb4.mono hb3.size)
                have s2 : wJ.cell? ⟨d, 2, none⟩ = some (.pointer (some ⟨N.p, 0, none⟩)) := (World.cell?_of_block (hb4'.block d hd2)).trans e2
                have s1 : wJ.cell? ⟨xb, 1, none⟩ = some (.int .i64 (A)) := (World.cell?_of_block (hb4'.block _ hxl2)).trans x1
                refine hK.out _ _ (fun _ => ⟨s2, s1⟩) ?_
                have HB4 := hid hb4'
                have HQ4 := hid hq4
                have HE4 := hid E4
                have v0 : wJ.cell? ⟨w6.heap.size, 0, none⟩ = some (.pointer none) := E4.is 0 (by omega)
                have v1 : wJ.cell? ⟨w6.heap.size, 1, none⟩ = some (.slice none 0 0) := E4.is 1 (by omega)
                have v2 : wJ.cell? ⟨w6.heap.size, 2, none⟩ = some (.slice none 0 0) := E4.is 2 (by omega)
                have u0 := E4.fz 0 (by omega)
                have u1 := E4.fz 1 (by omega)
                have u2 := E4.fz 2 (by omega)
                have ul := E4.lt
                clear hK K' hb4 hq4 hpo hb3 hb3' hb4' E4 e0 e2 x1
                repeat (first | (refine wpTr_qf (v := ?_) rfl rfl ?_ ?_; rotate_left; focus (intro w; go_simp; (try (with_reducible rfl)); done); try simp only [List.getElem_toArray, List.getElem_cons_zero, List.getElem_cons_succ, Act.put, List.setIfInBounds_toArray, List.set_cons_zero, List.set_cons_succ]) | (refine wpTr_qt (v := ?_) rfl rfl ?_ ?_; rotate_left; focus (intro w hSw; (try dsimp only at hSw); go_simp; (try (with_reducible rfl)); done); try simp only [List.getElem_toArray, List.getElem_cons_zero, List.getElem_cons_succ, Act.put, List.setIfInBounds_toArray, List.set_cons_zero, List.set_cons_succ]))
                refine wpTr_one rfl rfl (fun K hK => ?_)
                go_simp
                refine hK.out _ _ (fun h => by cases h) ?_
                clear hK K
                repeat (first | (refine wpTr_qf (v := ?_) rfl rfl ?_ ?_; rotate_left; focus (intro w; go_simp; (try (with_reducible rfl)); done); try simp only [List.getElem_toArray, List.getElem_cons_zero, List.getElem_cons_succ, Act.put, List.setIfInBounds_toArray, List.set_cons_zero, List.set_cons_succ]) | (refine wpTr_qt (v := ?_) rfl rfl ?_ ?_; rotate_left; focus (intro w hSw; (try dsimp only at hSw); go_simp; (try (with_reducible rfl)); done); try simp only [List.getElem_toArray, List.getElem_cons_zero, List.getElem_cons_succ, Act.put, List.setIfInBounds_toArray, List.set_cons_zero, List.set_cons_succ]))
                refine wpTr_nil ?_
                refine NoPanic.normal ?_
                have kb : KeptBut w6.heap.size wJ (((wJ.setCell ⟨w6.heap.size, 0, none⟩ (.pointer ep)).setCell ⟨w6.heap.size, 1, none⟩ (.slice t1 tn tc)).setCell ⟨w6.heap.size, 2, none⟩ (.slice a1 an ac)) := by
                  refine KeptBut.set ?_ (Or.inl (by rfl)) _
                  refine KeptBut.set ?_ (Or.inl (by rfl)) _
                  refine KeptBut.set ?_ (Or.inl (by rfl)) _
                  exact KeptBut.refl _ _
                refine ⟨rfl, w6.heap.size, ep, t1, a1, tn, tc, an, ac, code, Nat.le_refl _, ?_, ?_, HQ4.out.set hlt3 _ (Nat.le_refl _) kb, by simp only [Act.put, List.setIfInBounds_toArray, List.set_cons_zero, List.set_cons_succ, List.getElem_toArray, List.getElem_cons_zero, List.getElem_cons_succ]⟩
                · refine Below.setCell ?_ (by simp) _
                  refine Below.setCell ?_ (by simp) _
                  refine Below.setCell ?_ (by simp) _
                  exact HB4.out
                · refine (((HE4.out.set 0 _ (by omega)).set 1 _ (by omega)).set 2 _ (by omega)).congr (fun i hi => ?_)
                  rcases (by omega : i = 0 ∨ i = 1 ∨ i = 2) with rfl | rfl | rfl <;> rfl
              --END 1
            · rintro a w7 ⟨eb, ep, t1, a1, tn, tc, an, ac, code, hebs, hb7, hE7, hQ7, rfl⟩
              simp only [Act.put, List.setIfInBounds_toArray, List.set_cons_zero, List.set_cons_succ]
              rcases hQ7 with ⟨-, rfl, -⟩ | ⟨hpk, hgc, rfl, he0, hin⟩
              · have HP7 := hid (HP6.out.below hb7)
                clear hb7 hE7 ES
                go_wp2
                go_roundw
                case rel => exact ⟨i + 1, l6, m5, D', by go_num, by omega, HP7.out⟩
                case measure => (simp [intOf] <;> omega)
              · --BEGIN 3
                simp only [Value.pointer.injEq] at he0
                subst he0
                have hud : ∀ j, j < w6.heap.size → (fun b => if b < w6.heap.size then l6 b else 0) j = l6 j := fun j hj => if_pos hj
                have hin7 := hin (fun b => if b < w6.heap.size then l6 b else 0) (fun j hj => if_neg (by omega))
                have P7 := (HP6.out.relab hud).below hb7
                have F7 := (HF6.out.relab (lab' := fun b => if b < w6.heap.size then l6 b else 0) (fun b hb hx => by have := hud b hb; simp only at this; rw [this]; exact hx)).below hb7
                have G7 := (HG6.out.relab (lab' := fun b => if b < w6.heap.size then l6 b else 0) (fun b hb hx => by have := hud b hb; simp only at this; rw [this]; exact hx)).below hb7
                obtain ⟨l7, hl7⟩ : ∃ y, (fun b => if b < w6.heap.size then l6 b else 0) = y := ⟨_, rfl⟩
                rw [hl7] at hin7 P7 F7 G7
                have e0' := (World.cell?_of_block (hb7.block d hd2)).trans e0
                have e1' := (World.cell?_of_block (hb7.block d hd2)).trans e1
                have x1' := (World.cell?_of_block (hb7.block xb hxl2)).trans x1
                have hd7 : d < w7.heap.size := Nat.lt_of_lt_of_le hd2 hb7.size
                have hx7 : xb < w7.heap.size := Nat.lt_of_lt_of_le hxl2 hb7.size
                have HP7 := hid P7
                have HF7 := hid F7
                have HG7 := hid G7
                have HI7 := hid hin7
                have HE7 := hid hE7
                have hok := gcode_ok.1 hgc
                have HOK := hid hok
                have hby : 0 ≤ (X.F.park A).1 ∧ (X.F.park A).1 < (X.F.n : Int) := by
                  refine park_in F7.ok ?_
                  unfold FS.park at hpk
                  split at hpk
                  · assumption
                  · cases hpk
                clear e0 e1 e2 x1 hd2 hxl2 hb7 hE7 hin hin7 hud hl7 P7 F7 G7 ES HP6 HF6 HG6 hpk hgc hok hebs
                go_wp2
                first | with_reducible refine wp_region_tail_ext2 9 (by kernel_rfl) (by kernel_rfl) ?_ | refine wp_region_tail_ext 9 (by kernel_rfl) (by kernel_rfl) ?_
                simp only [List.take_succ_cons, List.take_zero, List.drop_succ_cons, List.drop_zero]
                repeat (go_big_quiet_step (fail))
                refine wpQuiet_nil ?_
                rintro _ ⟨z, rfl⟩
                go_wp2_with (first | (go_at_call 28; refine hold ?_))
                unfold Hid
                refine calls_nm fun w8 hw8 => ?_
                have B8 : Below w7.heap.size w7 w8 := by rw [hw8]; (repeat (first | with_reducible exact Below.rf _ | with_reducible exact World.below_ext _ _ | with_reducible refine Below.ex ?_ _ | with_reducible refine Below.al ?_ _ | with_reducible refine Below.setCell ?_ (by simp) _ | with_reducible refine Below.drew ?_))
                have M8 : Blk w8 (w7.heap.size + z.heap.size) 2 (fc (.pointer (some ⟨fb, 0, none⟩)) (.pointer (some ⟨M.t, 0, none⟩)) undef undef) := by
                  rw [hw8]
                  refine ⟨by (simp <;> omega), fun i hi => ?_, fun i hi => by simp [go_sem, ↓IntWalk.iteOmega]⟩
                  rcases (by omega : i = 0 ∨ i = 1) with rfl | rfl <;> simp [go_sem, ↓IntWalk.iteOmega, fc]
                clear hw8
                refine (remain_any _ fb X.F _ l7 A (.slice go gn gc) gl w8 (HF7.out.below B8) M8 (HG7.out.below B8) HOK.out hby).mono ?_
                rintro e w9 ⟨LB, rb, L, rfl, hRm, hLok⟩
                obtain ⟨bay, hbay⟩ : ∃ y, (X.F.park A).1 = y := ⟨_, rfl⟩
                have PK0 := hid (fun (w' : World) (h : Below w9.heap.size w9 w') => parking_any fb X.F l7 A w' (((HF7.out.below B8).below hRm.k).below h))
                obtain ⟨bbk, hbbk⟩ : ∃ y, (X.F.park A).2 = y := ⟨_, rfl⟩
                rw [hbay, hbbk] at PK0
                rw [hbay] at HI7 hby hLok
                have B9 : Below w7.heap.size w7 w9 := B8.trans (hRm.k.mono B8.size)
                have HE9 : Hid (E5 w9 l7 eb fb X.F bay gl (.slice go gn gc) (.slice t1 tn tc) (.slice a1 an ac) LB rb L d xb A) := ⟨HF7.out.below B9, HE7.out.below B9, HI7.out.1.keptL (A := fun _ => False) (KeptL.of_below B9) (fun _ h => h.elim), HI7.out.2.keptL (A := fun _ => False) (KeptL.of_below B9) (fun _ h => h.elim), HG7.out.below B9, hRm.lb.congr (fun l hl => if_pos hl), hRm.row, (World.cell?_of_block (B9.block d hd7)).trans e0', Nat.lt_of_lt_of_le hd7 B9.size, (World.cell?_of_block (B9.block xb hx7)).trans x1', Nat.lt_of_lt_of_le hx7 B9.size⟩
                have HP9 := hid (HP7.out.below B9)
                have HL := hid hLok
                have hk16 := HOK.out.1
                have hn384 := HF7.out.ok.n
                have HFO := hid HF7.out.ok
                rw [HGN.out] at hk16 ⊢
                obtain ⟨fn, hfn⟩ : ∃ y, X.F.n = y := ⟨_, rfl⟩
                rw [hfn] at hn384
                have HFN := hid hfn
                clear M8 B8 B9 hRm hLok hbay hbbk HF7 HG7 HI7 HE7 HP7 e0' e1' x1' hd7 hx7 hfn
                go_wp2
                refine lab_loop w9 l7 eb fb LB d xb gn fn gc tn tc an ac X.F bay A gl go t1 a1 rb L HE9.out HL.out HOK.out HFO.out HGN.out HFN.out hby _ _ _ _ _ _ _ _ _ _ _ _ _ _ _ _ _ _ _ _ _ _ _ _ _ _ _ _ _ _ _ _ _ _ _ _ _ _ _ _ _ _ _ _ _ _ _ _ _ _ _ _ _ _ _ _ _ _ _ _ _ _ _ _ _ _ _ _ _ _ _ _ _ _ _ _ _ _ _ _ _ _ _ _ _ _ _ _ _ _ _ _ _ _ _ _ _ _ _ _ _ _ _ _ _ _ _ _ _ _ _ _ _ _ _ _ _ _ _ _ _ _ _ _ _ _ _ _ _ _ _ _ _ _ _ _ _ _ _ _ _ _ _ _ _ _ _ _ _ _ _ _ _ _ _ _ _ _ _ _ _ _ _ _ _ _ _ _ _ _ _ _ _ _ _ _ _ ?_
                intro aL wr hE
                obtain ⟨hBL, hE⟩ := hE
                obtain ⟨u2, hE⟩ := hE
                obtain ⟨u12, hE⟩ := hE
                obtain ⟨u13, hE⟩ := hE
                obtain ⟨u14, hE⟩ := hE
                obtain ⟨u16, hE⟩ := hE
                obtain ⟨u86, hE⟩ := hE
                obtain ⟨u87, hE⟩ := hE
                obtain ⟨u88, hE⟩ := hE
                obtain ⟨u89, hE⟩ := hE
                obtain ⟨u90, hE⟩ := hE
                obtain ⟨u91, hE⟩ := hE
                obtain ⟨u92, hE⟩ := hE
                obtain ⟨u93, hE⟩ := hE
                obtain ⟨u94, hE⟩ := hE
                obtain ⟨u95, hE⟩ := hE
                obtain ⟨u96, hE⟩ := hE
                obtain ⟨u97, hE⟩ := hE
                obtain ⟨u98, hE⟩ := hE
                obtain ⟨u99, hE⟩ := hE
                obtain ⟨u100, hE⟩ := hE
                obtain ⟨u101, hE⟩ := hE
                obtain ⟨u102, hE⟩ := hE
                obtain ⟨u103, hE⟩ := hE
                obtain ⟨u104, hE⟩ := hE
                obtain ⟨u105, hE⟩ := hE
                obtain ⟨u106, hE⟩ := hE
                obtain ⟨u107, hE⟩ := hE
                obtain ⟨u108, hE⟩ := hE
                obtain ⟨u109, hE⟩ := hE
                obtain ⟨u110, hE⟩ := hE
                obtain ⟨u111, hE⟩ := hE
                obtain ⟨u112, hE⟩ := hE
                obtain ⟨u113, hE⟩ := hE
                obtain ⟨u114, hE⟩ := hE
                obtain ⟨u115, hE⟩ := hE
                obtain ⟨u116, hE⟩ := hE
                obtain ⟨u117, hE⟩ := hE
                obtain ⟨u118, hE⟩ := hE
                obtain ⟨u119, hE⟩ := hE
                obtain ⟨u120, hE⟩ := hE
                obtain ⟨u121, hE⟩ := hE
                obtain ⟨u122, hE⟩ := hE
                obtain ⟨u123, hE⟩ := hE
                obtain ⟨u124, hE⟩ := hE
                obtain ⟨u125, hE⟩ := hE
                obtain ⟨u126, hE⟩ := hE
                obtain ⟨u127, hE⟩ := hE
                obtain ⟨u128, hE⟩ := hE
                obtain ⟨u129, hE⟩ := hE
                obtain ⟨u130, hE⟩ := hE
                obtain ⟨u131, hE⟩ := hE
                obtain ⟨u132, hE⟩ := hE
                obtain ⟨u133, hE⟩ := hE
                obtain ⟨u134, hE⟩ := hE
                obtain ⟨u135, hE⟩ := hE
                obtain ⟨u136, hE⟩ := hE
                obtain ⟨u137, hE⟩ := hE
                obtain ⟨u138, hE⟩ := hE
                obtain ⟨u139, hE⟩ := hE
                obtain ⟨u140, hE⟩ := hE
                obtain ⟨u141, hE⟩ := hE
                obtain ⟨u142, hE⟩ := hE
                obtain ⟨u143, hE⟩ := hE
                obtain ⟨u144, hE⟩ := hE
                obtain ⟨u145, hE⟩ := hE
                obtain ⟨u146, hE⟩ := hE
                obtain ⟨u147, hE⟩ := hE
                obtain ⟨u148, hE⟩ := hE
                obtain ⟨u149, hE⟩ := hE
                obtain ⟨u150, hE⟩ := hE
                obtain ⟨u151, hE⟩ := hE
                obtain ⟨u152, hE⟩ := hE
                obtain ⟨u153, hE⟩ := hE
                obtain ⟨u154, hE⟩ := hE
                obtain ⟨u155, hE⟩ := hE
                obtain ⟨u156, hE⟩ := hE
                obtain ⟨u157, hE⟩ := hE
                obtain ⟨u158, hE⟩ := hE
                obtain ⟨u159, hE⟩ := hE
                obtain ⟨u160, hE⟩ := hE
                obtain ⟨u161, hE⟩ := hE
                obtain ⟨u162, hE⟩ := hE
                obtain ⟨u163, hE⟩ := hE
                obtain ⟨u164, hE⟩ := hE
                subst hE
                have HB := hid hBL
                have HE := hid (HE9.out.below hBL)
                clear hBL
                have g0 : (wr).cell? ⟨eb, 0, none⟩ = some (.pointer (some ⟨fb, 0, none⟩)) := HE.out.e.is 0 (by omega)
                have g1 : (wr).cell? ⟨eb, 1, none⟩ = some (.slice t1 tn tc) := HE.out.e.is 1 (by omega)
                have g2 : (wr).cell? ⟨eb, 2, none⟩ = some (.slice a1 an ac) := HE.out.e.is 2 (by omega)
                have gl0 := HE.out.e.lt
                have e0 := HE.out.d0
                have hdx := HE.out.dl
                have x1 := HE.out.x1
                have hxx := HE.out.xl
                obtain ⟨bn, rfl⟩ : ∃ bn : Nat, bay = bn := ⟨bay.toNat, by omega⟩
                have hho := est_home HFO.out (bn : Int) gl
                rw [Int.toNat_natCast, HGN.out] at hho
                have EA0 : Hid (∀ w' : World, Below wr.heap.size wr w' → Calls Try.prog 31 #[.agg #[.pointer (some ⟨fb, 0, none⟩), .slice t1 tn tc, .slice a1 an ac], .int .i64 (bn), .int .i64 (gn)] w' fun e w'' => e = .returned (.int .i64 (0)) ∧ ∃ z, w'' = w'.ext z) := fun w' h => by
                  have := estAt_any fb X.F (.slice t1 tn tc) (.slice a1 an ac) l7 bn gl bn gn w' (HE.out.below h).f HOK.out hby (HE.out.below h).t (HE.out.below h).a (by omega) (by rw [HGN.out]; omega)
                  rw [hho] at this
                  exact this
                have PK5 := hid (fun (w' : World) (h : Below wr.heap.size wr w') => PK0.out w' (HB.out.trans (h.mono HB.out.size)))
                go_wp2
                first | with_reducible refine wp_region_ext2 (by kernel_rfl) (by kernel_rfl) ?_ | refine wp_region_ext (by kernel_rfl) (by kernel_rfl) ?_
                repeat (go_big_quiet_step ((go_at_call 20; exact Calls.ext_of_same (PK5.out _ (by (repeat (first | with_reducible exact Below.rf _ | with_reducible exact World.below_ext _ _ | with_reducible refine Below.ex ?_ _ | with_reducible refine Below.al ?_ _ | with_reducible refine Below.setCell ?_ (by simp) _ | with_reducible refine Below.drew ?_)))))))
                refine wpQuiet_nil ?_
                rintro _ ⟨z, rfl⟩
                go_wp2_with (first | (go_at_call 31; refine (EA0.out _ (by (repeat (first | with_reducible exact Below.rf _ | with_reducible exact World.below_ext _ _ | with_reducible refine Below.ex ?_ _ | with_reducible refine Below.al ?_ _ | with_reducible refine Below.setCell ?_ (by simp) _ | with_reducible refine Below.drew ?_)))).mono ?_; rintro e w' ⟨rfl, zz, rfl⟩))
                go_roundw
                case rel =>
                  refine ⟨i + 1, l7, m5, D', by go_num, by omega, HP9.out.below ?_⟩
                  refine HB.out.trans (Below.mono ?_ HB.out.size)
                  (repeat (first | with_reducible exact Below.rf _ | with_reducible exact World.below_ext _ _ | with_reducible refine Below.ex ?_ _ | with_reducible refine Below.al ?_ _ | with_reducible refine Below.setCell ?_ (by simp) _ | with_reducible refine Below.drew ?_))
                case measure => (simp [intOf] <;> omega)
                --END 3
            --END 6
          · have k6 : (oi.K != 6) = true := by simp [h6]
            by_cases h7 : oi.K = 7
            · have k7 : (oi.K != 7) = false := by simp [h7]
              --BEGIN 7
              clear h7
              have x1 : w5.cell? ⟨xb, 1, none⟩ = some (.int .i64 (oi.A)) := X5.is 1 (by omega)
              have x2 : w5.cell? ⟨xb, 2, none⟩ = some (.int .i64 (oi.B)) := X5.is 2 (by omega)
              have x3 : w5.cell? ⟨xb, 3, none⟩ = some (.int .i64 (oi.C)) := X5.is 3 (by omega)
              have x4 : w5.cell? ⟨xb, 4, none⟩ = some (.int .i64 (oi.D)) := X5.is 4 (by omega)
              have x5 : w5.cell? ⟨xb, 5, none⟩ = some (.int .i64 (oi.E)) := X5.is 5 (by omega)
              have x6 : w5.cell? ⟨xb, 6, none⟩ = some (.slice (lao i) oi.l.length (lcap i)) := X5.is 6 (by omega)
              have GO := hid (goals_any oi (.slice (lao i) oi.l.length (lcap i)) l5 w5 hIo.out hol)
              have KF := hid (And.intro f1 (And.intro f2 (And.intro f3 (And.intro hF hPP))))
              have HX5 := hid X5
              clear P5 X5 hIo f1 f2 f3 hF hT2 hPP hW
              go_wp2_with (first | (go_at_call 26; refine hold ?_))
              unfold Hid
              refine GO.out.mono ?_
              intro e w6 hgp
              obtain ⟨hb6, go, gc, gbb, rfl, hgv⟩ := goals_v hgp
              have hud : ∀ j, j < w5.heap.size → (fun b => if b < w5.heap.size then l5 b else 0) j = l5 j := fun j hj => if_pos hj
              have hG6 := hgv (fun b => if b < w5.heap.size then l5 b else 0) (fun j hj => if_neg (by omega))
              obtain ⟨f1, f2, f3, hF, hPP⟩ := KF.out
              have P6 := (HP5.out.relab hud).below hb6
              have F6 := (hF.relab (lab' := fun b => if b < w5.heap.size then l5 b else 0) (fun b hb hx => by have := hud b hb; simp only at this; rw [this]; exact hx)).below hb6
              have PP6 := (hPP.relab hud).below hb6
              have X6 := HX5.out.below hb6
              obtain ⟨l6, hl6⟩ : ∃ y, (fun b => if b < w5.heap.size then l5 b else 0) = y := ⟨_, rfl⟩
              rw [hl6] at hG6 P6 F6 PP6
              clear x0 x1 x2 x3 x4 x5 x6 hxl hdl d0 GO HP5 HX5 KF hgp hgv hud hl6 hb6 hF hPP
              have e0 : w6.cell? ⟨d, 0, none⟩ = some (.pointer (some ⟨fb, 0, none⟩)) := by
                rw [P6.dk.b.is 0 (by omega)]
                show some m5.fv = _
                rw [f1]
              have e1 : w6.cell? ⟨d, 1, none⟩ = some (.pointer (some ⟨M.t, 0, none⟩)) := by
                rw [P6.dk.b.is 1 (by omega)]
                show some m5.tv = _
                rw [f2]
              have e2 : w6.cell? ⟨d, 2, none⟩ = some (.pointer (some ⟨N.p, 0, none⟩)) := by
                rw [P6.dk.b.is 2 (by omega)]
                show some m5.pv = _
                rw [f3]
              have x1 : w6.cell? ⟨xb, 1, none⟩ = some (.int .i64 (oi.A)) := X6.is 1 (by omega)
              have hd2 := P6.dk.b.lt
              have hxl2 := X6.lt
              obtain ⟨gl, hgl⟩ : ∃ y, glOf oi.l = y := ⟨_, rfl⟩
              rw [hgl] at hG6 ⊢
              obtain ⟨gn, hgn⟩ : ∃ y, gl.length = y := ⟨_, rfl⟩
              rw [hgn] at hG6 ⊢
              have HGN := hid hgn
              have ES := hid (fun (w' : World) (h : Below w6.heap.size w6 w') => estim_any N X.S n5 fb M.t X.F l6 oi.A (.slice go gn gc) gl w' (F6.below h) (PP6.below h) (hG6.below h))
              have HG6 := hid hG6
              have HP6 := hid P6
              have HF6 := hid F6
              clear P6 F6 PP6 X6 hG6 hgl hgn f1 f2 f3
              generalize oi.A = A at *
              go_wp2
              refine region_via (e5R d xb N.p A (.slice go gn gc) fb X.F gl w6) ?_ ?_
              · --BEGIN 1
                refine wp_region_tree 12 (fun w' => w'.cell? ⟨d, 2, none⟩ = some (.pointer (some ⟨N.p, 0, none⟩)) ∧ w'.cell? ⟨xb, 1, none⟩ = some (.int .i64 (A))) (.q 0 false (.q 1 false (.q 2 false (.q 3 true (.q 4 false (.q 5 true (.q 6 false (.two 7 11 (.q 8 false (.q 9 false (.q 10 false (.one 11 true (.one 12 false (.q 13 false .nil)))))) (.one 7 true (.q 8 false (.q 9 false (.q 10 false (.one 12 false (.q 13 false .nil)))))))))))))) (by kernel_rfl) (by kernel_rfl) (by kernel_rfl) ?_ ?_
                · simp [go_sem, ↓IntWalk.iteOmega, *]
                repeat (first | (refine wpTr_qf (v := ?_) rfl rfl ?_ ?_; rotate_left; focus (intro w; go_simp; (try (with_reducible rfl)); done); try simp only [List.getElem_toArray, List.getElem_cons_zero, List.getElem_cons_succ, Act.put, List.setIfInBounds_toArray, List.set_cons_zero, List.set_cons_succ]) | (refine wpTr_qt (v := ?_) rfl rfl ?_ ?_; rotate_left; focus (intro w hSw; (try dsimp only at hSw); go_simp; (try (with_reducible rfl)); done); try simp only [List.getElem_toArray, List.getElem_cons_zero, List.getElem_cons_succ, Act.put, List.setIfInBounds_toArray, List.set_cons_zero, List.set_cons_succ]))
                refine wpTr_two rfl rfl rfl rfl ?_ ?_
                · intro K' hK
                  go_simp
                  go_at_call 27
                  refine (ES.out _ (by (repeat (first | with_reducible exact Below.rf _ | with_reducible exact World.below_ext _ _ | with_reducible refine Below.ex ?_ _ | with_reducible refine Below.al ?_ _ | with_reducible refine Below.setCell ?_ (by simp) _ | with_reducible refine Below.drew ?_)))).mono ?_
                  intro e wJ hpo
                  obtain ⟨ep, t1, a1, tn, tc, an, ac, code, rfl, hb4, hq4⟩ := estim_q hpo
                  clear hpo
                  simp only [World.size_drew] at hb4 hq4
                  replace hb4 : Below w6.heap.size w6 wJ := ((Below.rf w6).drew).trans hb4
                  have s2 : wJ.cell? ⟨d, 2, none⟩ = some (.pointer (some ⟨N.p, 0, none⟩)) := (World.cell?_of_block (hb4.block d hd2)).trans e2
                  have s1 : wJ.cell? ⟨xb, 1, none⟩ = some (.int .i64 (A)) := (World.cell?_of_block (hb4.block _ hxl2)).trans x1
                  have hs4 := hb4.size
                  refine hK.out _ _ ⟨s2, s1⟩ ?_
                  have HB4 := hid hb4
                  have HQ4 := hid hq4
                  clear hK K' hb4 hq4 e0 e2 x1
                  repeat (first | (refine wpTr_qf (v := ?_) rfl rfl ?_ ?_; rotate_left; focus (intro w; go_simp; (try (with_reducible rfl)); done); try simp only [List.getElem_toArray, List.getElem_cons_zero, List.getElem_cons_succ, Act.put, List.setIfInBounds_toArray, List.set_cons_zero, List.set_cons_succ]) | (refine wpTr_qt (v := ?_) rfl rfl ?_ ?_; rotate_left; focus (intro w hSw; (try dsimp only at hSw); go_simp; (try (with_reducible rfl)); done); try simp only [List.getElem_toArray, List.getElem_cons_zero, List.getElem_cons_succ, Act.put, List.setIfInBounds_toArray, List.set_cons_zero, List.set_cons_succ]))
                  refine wpTr_one rfl rfl (fun K hK => ?_)
                  go_simp
                  refine hK.out _ _ (fun _ => by simp [go_sem, ↓IntWalk.iteOmega, *]) ?_
                  clear hK K
                  refine wpTr_one rfl rfl (fun K hK => ?_)
                  go_simp
                  refine hK.out _ _ (fun h => by cases h) ?_
                  clear hK K
                  repeat (first | (refine wpTr_qf (v := ?_) rfl rfl ?_ ?_; rotate_left; focus (intro w; go_simp; (try (with_reducible rfl)); done); try simp only [List.getElem_toArray, List.getElem_cons_zero, List.getElem_cons_succ, Act.put, List.setIfInBounds_toArray, List.set_cons_zero, List.set_cons_succ]) | (refine wpTr_qt (v := ?_) rfl rfl ?_ ?_; rotate_left; focus (intro w hSw; (try dsimp only at hSw); go_simp; (try (with_reducible rfl)); done); try simp only [List.getElem_toArray, List.getElem_cons_zero, List.getElem_cons_succ, Act.put, List.setIfInBounds_toArray, List.set_cons_zero, List.set_cons_succ]))
                  refine wpTr_nil ?_
                  refine NoPanic.normal ?_
                  refine ⟨rfl, wJ.heap.size, ep, t1, a1, tn, tc, an, ac, code, hs4, ?_, ?_, HQ4.out.mono (Nat.le_refl _) (by (repeat (first | with_reducible exact Below.rf _ | with_reducible exact World.below_ext _ _ | with_reducible refine Below.ex ?_ _ | with_reducible refine Below.al ?_ _ | with_reducible refine Below.setCell ?_ (by simp) _ | with_reducible refine Below.drew ?_))), by simp only [Act.put, List.setIfInBounds_toArray, List.set_cons_zero, List.set_cons_succ, List.getElem_toArray, List.getElem_cons_zero, List.getElem_cons_succ]⟩
                  · refine HB4.out.trans ?_
                    refine Below.mono ?_ hs4
                    (repeat (first | with_reducible exact Below.rf _ | with_reducible exact World.below_ext _ _ | with_reducible refine Below.ex ?_ _ | with_reducible refine Below.al ?_ _ | with_reducible refine Below.setCell ?_ (by simp) _ | with_reducible refine Below.drew ?_))
                  · refine ⟨by (simp <;> omega), fun i hi => ?_, fun i hi => by simp [go_sem, ↓IntWalk.iteOmega]⟩
                    rcases (by omega : i = 0 ∨ i = 1 ∨ i = 2) with rfl | rfl | rfl <;> simp [go_sem, ↓IntWalk.iteOmega, fc]
                · intro K' hK
                  go_simp
                  refine hK.out _ _ (by simp [go_sem, ↓IntWalk.iteOmega, *]) ?_
                  clear hK K'
                  refine wpTr_one rfl rfl (fun K' hK => ?_)
                  go_simp
                  go_at_call 27
                  refine calls_nm fun wH hw3 => ?_
                  have hb3 : Below w6.heap.size w6 wH := by rw [hw3]; (repeat (first | with_reducible exact Below.rf _ | with_reducible exact World.below_ext _ _ | with_reducible refine Below.ex ?_ _ | with_reducible refine Below.al ?_ _ | with_reducible refine Below.setCell ?_ (by simp) _ | with_reducible refine Below.drew ?_))
                  have hb3' : Blk wH w6.heap.size 3 (fc (.pointer none) (.slice none 0 0) (.slice none 0 0) undef) := by
                    rw [hw3]
                    refine ⟨by (simp <;> omega), fun i hi => ?_, fun i hi => by simp [go_sem, ↓IntWalk.iteOmega]⟩
                    rcases (by omega : i = 0 ∨ i = 1 ∨ i = 2) with rfl | rfl | rfl <;> simp [go_sem, ↓IntWalk.iteOmega, fc]
                  clear hw3
                  refine (ES.out _ hb3).mono ?_
                  intro e wJ hpo
                  obtain ⟨ep, t1, a1, tn, tc, an, ac, code, rfl, hb4, hq4⟩ := estim_q hpo
                  have E4 := hb3'.below hb4
                  have hlt3 := hb3'.lt
                  have hb4' : Below w6.heap.size w6 wJ := hb3.trans (hb4.mono hb3.size)
                  have s2 : wJ.cell? ⟨d, 2, none⟩ = some (.pointer (some ⟨N.p, 0, none⟩)) := (World.cell?_of_block (hb4'.block d hd2)).trans e2
                  have s1 : wJ.cell? ⟨xb, 1, none⟩ = some (.int .i64 (A)) := (World.cell?_of_block (hb4'.block _ hxl2)).trans x1
                  refine hK.out _ _ (fun _ => ⟨s2, s1⟩) ?_
                  have HB4 := hid hb4'
                  have HQ4 := hid hq4
                  have HE4 := hid E4
                  have v0 : wJ.cell? ⟨w6.heap.size, 0, none⟩ = some (.pointer none) := E4.is 0 (by omega)
                  have v1 : wJ.cell? ⟨w6.heap.size, 1, none⟩ = some (.slice none 0 0) := E4.is 1 (by omega)
                  have v2 : wJ.cell? ⟨w6.heap.size, 2, none⟩ = some (.slice none 0 0) := E4.is 2 (by omega)
                  have u0 := E4.fz 0 (by omega)
                  have u1 := E4.fz 1 (by omega)
                  have u2 := E4.fz 2 (by omega)
                  have ul := E4.lt
                  clear hK K' hb4 hq4 hpo hb3 hb3' hb4' E4 e0 e2 x1
                  repeat (first | (refine wpTr_qf (v := ?_) rfl rfl ?_ ?_; rotate_left; focus (intro w; go_simp; (try (with_reducible rfl)); done); try simp only [List.getElem_toArray, List.getElem_cons_zero, List.getElem_cons_succ, Act.put, List.setIfInBounds_toArray, List.set_cons_zero, List.set_cons_succ]) | (refine wpTr_qt (v := ?_) rfl rfl ?_ ?_; rotate_left; focus (intro w hSw; (try dsimp only at hSw); go_simp; (try (with_reducible rfl)); done); try simp only [List.getElem_toArray, List.getElem_cons_zero, List.getElem_cons_succ, Act.put, List.setIfInBounds_toArray, List.set_cons_zero, List.set_cons_succ]))
                  refine wpTr_one rfl rfl (fun K hK => ?_)
                  go_simp
                  refine hK.out _ _ (fun h => by cases h) ?_
                  clear hK K
                  repeat (first | (refine wpTr_qf (v := ?_) rfl rfl ?_ ?_; rotate_left; focus (intro w; go_simp; (try (with_reducible rfl)); done); try simp only [List.getElem_toArray, List.getElem_cons_zero, List.getElem_cons_succ, Act.put, List.setIfInBounds_toArray, List.set_cons_zero, List.set_cons_succ]) | (refine wpTr_qt (v := ?_) rfl rfl ?_ ?_; rotate_left; focus (intro w hSw; (try dsimp only at hSw); go_simp; (try (with_reducible rfl)); done); try simp only [List.getElem_toArray, List.getElem_cons_zero, List.getElem_cons_succ, Act.put, List.setIfInBounds_toArray, List.set_cons_zero, List.set_cons_succ]))
                  refine wpTr_nil ?_
                  refine NoPanic.normal ?_
                  have kb : KeptBut w6.heap.size wJ (((wJ.setCell ⟨w6.heap.size, 0, none⟩ (.pointer ep)).setCell ⟨w6.heap.size, 1, none⟩ (.slice t1 tn tc)).setCell ⟨w6.heap.size, 2, none⟩ (.slice a1 an ac)) := by
                    refine KeptBut.set ?_ (Or.inl (by rfl)) _
                    refine KeptBut.set ?_ (Or.inl (by rfl)) _
                    refine KeptBut.set ?_ (Or.inl (by rfl)) _
                    exact KeptBut.refl _ _
                  refine ⟨rfl, w6.heap.size, ep, t1, a1, tn, tc, an, ac, code, Nat.le_refl _, ?_, ?_, HQ4.out.set hlt3 _ (Nat.le_refl _) kb, by simp only [Act.put, List.setIfInBounds_toArray, List.set_cons_zero, List.set_cons_succ, List.getElem_toArray, List.getElem_cons_zero, List.getElem_cons_succ]⟩
                  · refine Below.setCell ?_ (by simp) _
                    refine Below.setCell ?_ (by simp) _
                    refine Below.setCell ?_ (by simp) _
                    exact HB4.out
                  · refine (((HE4.out.set 0 _ (by omega)).set 1 _ (by omega)).set 2 _ (by omega)).congr (fun i hi => ?_)
                    rcases (by omega : i = 0 ∨ i = 1 ∨ i = 2) with rfl | rfl | rfl <;> rfl
                --END 1
              · rintro a w7 ⟨eb, ep, t1, a1, tn, tc, an, ac, code, hebs, hb7, hE7, hQ7, rfl⟩
                simp only [Act.put, List.setIfInBounds_toArray, List.set_cons_zero, List.set_cons_succ]
                rcases hQ7 with ⟨-, rfl, -⟩ | ⟨hpk, hgc, rfl, he0, hin⟩
                · have HP7 := hid (HP6.out.below hb7)
                  clear hb7 hE7 ES
                  go_wp2
                  go_roundw
                  case rel => exact ⟨i + 1, l6, m5, D', by go_num, by omega, HP7.out⟩
                  case measure => (simp [intOf] <;> omega)
                · --BEGIN 3
                  simp only [Value.pointer.injEq] at he0
                  subst he0
                  have hud : ∀ j, j < w6.heap.size → (fun b => if b < w6.heap.size then l6 b else 0) j = l6 j := fun j hj => if_pos hj
                  have hin7 := hin (fun b => if b < w6.heap.size then l6 b else 0) (fun j hj => if_neg (by omega))
                  have P7 := (HP6.out.relab hud).below hb7
                  have F7 := (HF6.out.relab (lab' := fun b => if b < w6.heap.size then l6 b else 0) (fun b hb hx => by have := hud b hb; simp only at this; rw [this]; exact hx)).below hb7
                  have G7 := (HG6.out.relab (lab' := fun b => if b < w6.heap.size then l6 b else 0) (fun b hb hx => by have := hud b hb; simp only at this; rw [this]; exact hx)).below hb7
                  obtain ⟨l7, hl7⟩ : ∃ y, (fun b => if b < w6.heap.size then l6 b else 0) = y := ⟨_, rfl⟩
                  rw [hl7] at hin7 P7 F7 G7
                  have e0' := (World.cell?_of_block (hb7.block d hd2)).trans e0
                  have e1' := (World.cell?_of_block (hb7.block d hd2)).trans e1
                  have x1' := (World.cell?_of_block (hb7.block xb hxl2)).trans x1
                  have hd7 : d < w7.heap.size := Nat.lt_of_lt_of_le hd2 hb7.size
                  have hx7 : xb < w7.heap.size := Nat.lt_of_lt_of_le hxl2 hb7.size
                  have HP7 := hid P7
                  have HF7 := hid F7
                  have HG7 := hid G7
                  have HI7 := hid hin7
                  have HE7 := hid hE7
                  have hok := gcode_ok.1 hgc
                  have HOK := hid hok
                  have hby : 0 ≤ (X.F.park A).1 ∧ (X.F.park A).1 < (X.F.n : Int) := by
                    refine park_in F7.ok ?_
                    unfold FS.park at hpk
                    split at hpk
                    · assumption
                    · cases hpk
                  clear e0 e1 e2 x1 hd2 hxl2 hb7 hE7 hin hin7 hud hl7 P7 F7 G7 ES HP6 HF6 HG6 hpk hgc hok hebs
                  go_wp2
                  first | with_reducible refine wp_region_tail_ext2 9 (by kernel_rfl) (by kernel_rfl) ?_ | refine wp_region_tail_ext 9 (by kernel_rfl) (by kernel_rfl) ?_
                  simp only [List.take_succ_cons, List.take_zero, List.drop_succ_cons, List.drop_zero]
                  repeat (go_big_quiet_step (fail))
                  refine wpQuiet_nil ?_
                  rintro _ ⟨z, rfl⟩
                  go_wp2_with (first | (go_at_call 28; refine hold ?_))
                  unfold Hid
                  refine calls_nm fun w8 hw8 => ?_
                  have B8 : Below w7.heap.size w7 w8 := by rw [hw8]; (repeat (first | with_reducible exact Below.rf _ | with_reducible exact World.below_ext _ _ | with_reducible refine Below.ex ?_ _ | with_reducible refine Below.al ?_ _ | with_reducible refine Below.setCell ?_ (by simp) _ | with_reducible refine Below.drew ?_))
                  have M8 : Blk w8 (w7.heap.size + z.heap.size) 2 (fc (.pointer (some ⟨fb, 0, none⟩)) (.pointer (some ⟨M.t, 0, none⟩)) undef undef) := by
                    rw [hw8]
                    refine ⟨by (simp <;> omega), fun i hi => ?_, fun i hi => by simp [go_sem, ↓IntWalk.iteOmega]⟩
                    rcases (by omega : i = 0 ∨ i = 1) with rfl | rfl <;> simp [go_sem, ↓IntWalk.iteOmega, fc]
                  clear hw8
                  refine (remain_any _ fb X.F _ l7 A (.slice go gn gc) gl w8 (HF7.out.below B8) M8 (HG7.out.below B8) HOK.out hby).mono ?_
                  rintro e w9 ⟨LB, rb, L, rfl, hRm, hLok⟩
                  obtain ⟨bay, hbay⟩ : ∃ y, (X.F.park A).1 = y := ⟨_, rfl⟩
                  have PK0 := hid (fun (w' : World) (h : Below w9.heap.size w9 w') => parking_any fb X.F l7 A w' (((HF7.out.below B8).below hRm.k).below h))
                  obtain ⟨bbk, hbbk⟩ : ∃ y, (X.F.park A).2 = y := ⟨_, rfl⟩
                  rw [hbay, hbbk] at PK0
                  rw [hbay] at HI7 hby hLok
                  have B9 : Below w7.heap.size w7 w9 := B8.trans (hRm.k.mono B8.size)
                  have HE9 : Hid (E5 w9 l7 eb fb X.F bay gl (.slice go gn gc) (.slice t1 tn tc) (.slice a1 an ac) LB rb L d xb A) := ⟨HF7.out.below B9, HE7.out.below B9, HI7.out.1.keptL (A := fun _ => False) (KeptL.of_below B9) (fun _ h => h.elim), HI7.out.2.keptL (A := fun _ => False) (KeptL.of_below B9) (fun _ h => h.elim), HG7.out.below B9, hRm.lb.congr (fun l hl => if_pos hl), hRm.row, (World.cell?_of_block (B9.block d hd7)).trans e0', Nat.lt_of_lt_of_le hd7 B9.size, (World.cell?_of_block (B9.block xb hx7)).trans x1', Nat.lt_of_lt_of_le hx7 B9.size⟩
                  have HP9 := hid (HP7.out.below B9)
                  have HL := hid hLok
                  have hk16 := HOK.out.1
                  have hn384 := HF7.out.ok.n
                  have HFO := hid HF7.out.ok
                  rw [HGN.out] at hk16 ⊢
                  obtain ⟨fn, hfn⟩ : ∃ y, X.F.n = y := ⟨_, rfl⟩
                  rw [hfn] at hn384
                  have HFN := hid hfn
                  clear M8 B8 B9 hRm hLok hbay hbbk HF7 HG7 HI7 HE7 HP7 e0' e1' x1' hd7 hx7 hfn
                  go_wp2
                  refine lab_loop w9 l7 eb fb LB d xb gn fn gc tn tc an ac X.F bay A gl go t1 a1 rb L HE9.out HL.out HOK.out HFO.out HGN.out HFN.out hby _ _ _ _ _ _ _ _ _ _ _ _ _ _ _ _ _ _ _ _ _ _ _ _ _ _ _ _ _ _ _ _ _ _ _ _ _ _ _ _ _ _ _ _ _ _ _ _ _ _ _ _ _ _ _ _ _ _ _ _ _ _ _ _ _ _ _ _ _ _ _ _ _ _ _ _ _ _ _ _ _ _ _ _ _ _ _ _ _ _ _ _ _ _ _ _ _ _ _ _ _ _ _ _ _ _ _ _ _ _ _ _ _ _ _ _ _ _ _ _ _ _ _ _ _ _ _ _ _ _ _ _ _ _ _ _ _ _ _ _ _ _ _ _ _ _ _ _ _ _ _ _ _ _ _ _ _ _ _ _ _ _ _ _ _ _ _ _ _ _ _ _ _ _ _ _ _ ?_
                  intro aL wr hE
                  obtain ⟨hBL, hE⟩ := hE
                  obtain ⟨u2, hE⟩ := hE
                  obtain ⟨u12, hE⟩ := hE
                  obtain ⟨u13, hE⟩ := hE
                  obtain ⟨u14, hE⟩ := hE
                  obtain ⟨u16, hE⟩ := hE
                  obtain ⟨u86, hE⟩ := hE
                  obtain ⟨u87, hE⟩ := hE
                  obtain ⟨u88, hE⟩ := hE
                  obtain ⟨u89, hE⟩ := hE
                  obtain ⟨u90, hE⟩ := hE
                  obtain ⟨u91, hE⟩ := hE
                  obtain ⟨u92, hE⟩ := hE
                  obtain ⟨u93, hE⟩ := hE
                  obtain ⟨u94, hE⟩ := hE
                  obtain ⟨u95, hE⟩ := hE
                  obtain ⟨u96, hE⟩ := hE
                  obtain ⟨u97, hE⟩ := hE
                  obtain ⟨u98, hE⟩ := hE
                  obtain ⟨u99, hE⟩ := hE
                  obtain ⟨u100, hE⟩ := hE
                  obtain ⟨u101, hE⟩ := hE
                  obtain ⟨u102, hE⟩ := hE
                  obtain ⟨u103, hE⟩ := hE
                  obtain ⟨u104, hE⟩ := hE
                  obtain ⟨u105, hE⟩ := hE
                  obtain ⟨u106, hE⟩ := hE
                  obtain ⟨u107, hE⟩ := hE
                  obtain ⟨u108, hE⟩ := hE
                  obtain ⟨u109, hE⟩ := hE
                  obtain ⟨u110, hE⟩ := hE
                  obtain ⟨u111, hE⟩ := hE
                  obtain ⟨u112, hE⟩ := hE
                  obtain ⟨u113, hE⟩ := hE
                  obtain ⟨u114, hE⟩ := hE
                  obtain ⟨u115, hE⟩ := hE
                  obtain ⟨u116, hE⟩ := hE
                  obtain ⟨u117, hE⟩ := hE
                  obtain ⟨u118, hE⟩ := hE
                  obtain ⟨u119, hE⟩ := hE
                  obtain ⟨u120, hE⟩ := hE
                  obtain ⟨u121, hE⟩ := hE
                  obtain ⟨u122, hE⟩ := hE
                  obtain ⟨u123, hE⟩ := hE
                  obtain ⟨u124, hE⟩ := hE
                  obtain ⟨u125, hE⟩ := hE
                  obtain ⟨u126, hE⟩ := hE
                  obtain ⟨u127, hE⟩ := hE
                  obtain ⟨u128, hE⟩ := hE
                  obtain ⟨u129, hE⟩ := hE
                  obtain ⟨u130, hE⟩ := hE
                  obtain ⟨u131, hE⟩ := hE
                  obtain ⟨u132, hE⟩ := hE
                  obtain ⟨u133, hE⟩ := hE
                  obtain ⟨u134, hE⟩ := hE
                  obtain ⟨u135, hE⟩ := hE
                  obtain ⟨u136, hE⟩ := hE
                  obtain ⟨u137, hE⟩ := hE
                  obtain ⟨u138, hE⟩ := hE
                  obtain ⟨u139, hE⟩ := hE
                  obtain ⟨u140, hE⟩ := hE
                  obtain ⟨u141, hE⟩ := hE
                  obtain ⟨u142, hE⟩ := hE
                  obtain ⟨u143, hE⟩ := hE
                  obtain ⟨u144, hE⟩ := hE
                  obtain ⟨u145, hE⟩ := hE
                  obtain ⟨u146, hE⟩ := hE
                  obtain ⟨u147, hE⟩ := hE
                  obtain ⟨u148, hE⟩ := hE
                  obtain ⟨u149, hE⟩ := hE
                  obtain ⟨u150, hE⟩ := hE
                  obtain ⟨u151, hE⟩ := hE
                  obtain ⟨u152, hE⟩ := hE
                  obtain ⟨u153, hE⟩ := hE
                  obtain ⟨u154, hE⟩ := hE
                  obtain ⟨u155, hE⟩ := hE
                  obtain ⟨u156, hE⟩ := hE
                  obtain ⟨u157, hE⟩ := hE
                  obtain ⟨u158, hE⟩ := hE
                  obtain ⟨u159, hE⟩ := hE
                  obtain ⟨u160, hE⟩ := hE
                  obtain ⟨u161, hE⟩ := hE
                  obtain ⟨u162, hE⟩ := hE
                  obtain ⟨u163, hE⟩ := hE
                  obtain ⟨u164, hE⟩ := hE
                  subst hE
                  have HB := hid hBL
                  have HE := hid (HE9.out.below hBL)
                  clear hBL
                  have g0 : (wr).cell? ⟨eb, 0, none⟩ = some (.pointer (some ⟨fb, 0, none⟩)) := HE.out.e.is 0 (by omega)
                  have g1 : (wr).cell? ⟨eb, 1, none⟩ = some (.slice t1 tn tc) := HE.out.e.is 1 (by omega)
                  have g2 : (wr).cell? ⟨eb, 2, none⟩ = some (.slice a1 an ac) := HE.out.e.is 2 (by omega)
                  have gl0 := HE.out.e.lt
                  have e0 := HE.out.d0
                  have hdx := HE.out.dl
                  have x1 := HE.out.x1
                  have hxx := HE.out.xl
                  obtain ⟨bn, rfl⟩ : ∃ bn : Nat, bay = bn := ⟨bay.toNat, by omega⟩
                  have hho := est_home HFO.out (bn : Int) gl
                  rw [Int.toNat_natCast, HGN.out] at hho
                  have EA0 : Hid (∀ w' : World, Below wr.heap.size wr w' → Calls Try.prog 31 #[.agg #[.pointer (some ⟨fb, 0, none⟩), .slice t1 tn tc, .slice a1 an ac], .int .i64 (bn), .int .i64 (gn)] w' fun e w'' => e = .returned (.int .i64 (0)) ∧ ∃ z, w'' = w'.ext z) := fun w' h => by
                    have := estAt_any fb X.F (.slice t1 tn tc) (.slice a1 an ac) l7 bn gl bn gn w' (HE.out.below h).f HOK.out hby (HE.out.below h).t (HE.out.below h).a (by omega) (by rw [HGN.out]; omega)
                    rw [hho] at this
                    exact this
                  have PK5 := hid (fun (w' : World) (h : Below wr.heap.size wr w') => PK0.out w' (HB.out.trans (h.mono HB.out.size)))
                  go_wp2
                  first | with_reducible refine wp_region_ext2 (by kernel_rfl) (by kernel_rfl) ?_ | refine wp_region_ext (by kernel_rfl) (by kernel_rfl) ?_
                  repeat (go_big_quiet_step ((go_at_call 20; exact Calls.ext_of_same (PK5.out _ (by (repeat (first | with_reducible exact Below.rf _ | with_reducible exact World.below_ext _ _ | with_reducible refine Below.ex ?_ _ | with_reducible refine Below.al ?_ _ | with_reducible refine Below.setCell ?_ (by simp) _ | with_reducible refine Below.drew ?_)))))))
                  refine wpQuiet_nil ?_
                  rintro _ ⟨z, rfl⟩
                  go_wp2_with (first | (go_at_call 31; refine (EA0.out _ (by (repeat (first | with_reducible exact Below.rf _ | with_reducible exact World.below_ext _ _ | with_reducible refine Below.ex ?_ _ | with_reducible refine Below.al ?_ _ | with_reducible refine Below.setCell ?_ (by simp) _ | with_reducible refine Below.drew ?_)))).mono ?_; rintro e w' ⟨rfl, zz, rfl⟩))
                  go_roundw
                  case rel =>
                    refine ⟨i + 1, l7, m5, D', by go_num, by omega, HP9.out.below ?_⟩
                    refine HB.out.trans (Below.mono ?_ HB.out.size)
                    (repeat (first | with_reducible exact Below.rf _ | with_reducible exact World.below_ext _ _ | with_reducible refine Below.ex ?_ _ | with_reducible refine Below.al ?_ _ | with_reducible refine Below.setCell ?_ (by simp) _ | with_reducible refine Below.drew ?_))
                  case measure => (simp [intOf] <;> omega)
                  --END 3
              --END 7
            · have k7 : (oi.K != 7) = true := by simp [h7]
              clear P5 X5 hW hIo f1 f2 f3 hF hT2 hPP
              go_wp2
              go_roundw
              case rel => exact ⟨i + 1, l5, m5, D', by go_num, by omega, HP5.out⟩
              case measure => (simp [intOf] <;> omega)
    · have di : decide ((i : Int) < (n : Int)) = false := by simp; omega
      have din : decide (i < n) = false := by simp; omega
      have HP := hid hP
      clear hP
      go_wp2
      go_ret
      exact ⟨rfl, HP.out.bl⟩
end Go.Proofs.Qxb6500716a
