/-
  EnteredPlanIsInTable: the law.
-/
import Derived.Test.Qxb6500716aLa
import Derived.Test.Qxb6500716aDm
import Derived.Test.Qxb6500716aLd
namespace Go.Proofs.Qxb6500716a
open Go.RowKit Go.Maps
set_option linter.unusedSimpArgs false
set_option linter.unusedVariables false
set_option maxRecDepth 20000
set_option maxHeartbeats 4000000
def e8R (d : Nat) (q : Rq) (x : Int) (gv pv dv : Value) (w : World) (a a' : Act) (w3 : World) : Prop :=
  ∃ (rb pb : Nat), w.heap.size ≤ rb ∧ w.heap.size ≤ pb ∧ Below w.heap.size w w3 ∧ Blk w3 rb 6 (rqc q gv) ∧ Blk w3 pb 5 (plc q.t x pv dv) ∧
    a' = (((((((((a.put (some 52) (.pointer (some ⟨d, 0, none⟩))).put (some 53) (.pointer (some ⟨d, 0, none⟩))).put (some 54) (.pointer (some ⟨d, 4, none⟩))).put (some 55) (.agg #[.int .i64 ((q).r), .int .i64 ((q).s), .int .i64 ((q).t), gv, .int .i64 ((q).h), .int .i64 ((q).m)])).put (some 56) (.pointer (some ⟨d, 0, none⟩))).put (some 57) (.pointer (some ⟨d, 0, none⟩))).put (some 58) (.pointer (some ⟨d, 10, none⟩))).put (some 59) (.agg #[.int .u8 (0), .int .i64 (q.t), pv, dv, .int .i64 (x)])).put (some 7) (.pointer (some ⟨rb, 0, none⟩))).put (some 8) (.pointer (some ⟨pb, 0, none⟩))
set_option maxHeartbeats 40000000 in
theorem law8 (sb so n cap : Nat) (o : Nat → Opr) (lao : Nat → Option Addr) (lcap : Nat → Nat) (w : World) (hS : Scr w sb so n o lao lcap) (hn : n ≤ 9223372036854775807) :
    Calls Try.prog 8 #[.slice (some ⟨sb, so, none⟩) n cap] w fun e w' => e = .returned (.bool true) ∧ Below w.heap.size w w' := by
  have HS := hid hS
  have SM := hid (small_any sb so n cap o lao lcap w hS hn)
  clear hS
  go_enter Try.func8, Try.ntmps8
  go_wp2_with (go_at_call 11; refine hold ?_)
  unfold Hid
  refine SM.out.mono ?_
  rintro e w1 ⟨⟨b, rfl, hsm⟩, hw1⟩
  obtain rfl : w = w1 := hw1.symm
  clear hw1 SM
  cases b with
  | false =>
    go_wp2
    go_ret
    exact ⟨rfl, Below.rf _⟩
  | true =>
  obtain ⟨hn1, hn2⟩ := hsm rfl
  have HN2 := hid hn2
  clear hsm hn2
  go_wp2
  refine wp_nm fun w1 hw1 => ?_
  have P0 : Hid (Play w w1 (fun b => if b < w.heap.size then 0 else 1) w.heap.size 0 ⟨.pointer none, .pointer none, .pointer none, .slice none 0 0, .slice none 0 0, .slice none 0 0⟩ Dk.zero) := by
    unfold Hid
    rw [hw1]
    refine ⟨⟨⟨by (simp <;> omega), fun i hi => ?_, fun i hi => by simp [go_sem, ↓IntWalk.iteOmega]⟩, by simp, ⟨rfl, rfl, rfl⟩, ⟨⟨none, 0, rfl, Nat.le_refl _⟩, by simp [Dk.zero], fun c hc => by simp [Dk.zero] at hc, fun j c hj => by simp [Dk.zero] at hj⟩, Ints.nil _ _, Ints.nil _ _, fun h => absurd rfl h⟩, by (repeat (first | with_reducible exact Below.rf _ | with_reducible exact World.below_ext _ _ | with_reducible refine Below.ex ?_ _ | with_reducible refine Below.al ?_ _ | with_reducible refine Below.setCell ?_ (by simp) _ | with_reducible refine Below.drew ?_)), fun j hj => if_pos hj, fun X hX => by simp [Dk.zero] at hX⟩
    rcases (by omega : i = 0 ∨ i = 1 ∨ i = 2 ∨ i = 3 ∨ i = 4 ∨ i = 5 ∨ i = 6 ∨ i = 7 ∨ i = 8 ∨ i = 9 ∨ i = 10 ∨ i = 11 ∨ i = 12 ∨ i = 13 ∨ i = 14) with rfl | rfl | rfl | rfl | rfl | rfl | rfl | rfl | rfl | rfl | rfl | rfl | rfl | rfl | rfl <;> simp [go_sem, ↓IntWalk.iteOmega, dcell, Dk.zero]
  clear hw1
  obtain ⟨d, hd⟩ : ∃ y, w.heap.size = y := ⟨_, rfl⟩
  obtain ⟨l1, hl1⟩ : ∃ y, (fun b => if b < w.heap.size then 0 else 1) = y := ⟨_, rfl⟩
  rw [hl1] at P0
  clear hl1
  have hdw : w.heap.size ≤ d := by omega
  rw [hd] at P0 ⊢
  clear hd
  go_loopw [22] (fun v wr => ∃ (i : Nat) (lab : Nat → Nat) (m : DM) (D : Dk), v = .int .i64 (i) ∧ i ≤ n ∧ Play w wr lab d i m D) (fun v _ => n - (intOf v).toNat)
  case atStart => exact ⟨0, l1, _, _, rfl, Nat.zero_le _, P0.out⟩
  case round =>
    obtain ⟨i, lab, m, D, rfl, hi, hP⟩ := hrel
    clear P0 w1
    by_cases hin : i < n
    · obtain ⟨c0, c1, c2, c3, c4, c5, c6⟩ := (HS.out.below hP.bl).cells i hin
      have hsb := (HS.out.below hP.bl).hsb
      have d1 : wr.cell? ⟨d, 1, none⟩ = some m.tv := hP.dk.b.is 1 (by omega)
      have hdl := hP.dk.b.lt
      have HP := hid hP
      have di : decide ((i : Int) < (n : Int)) = true := by simp; omega
      have din : decide (i < n) = true := by simp; omega
      have hud : ∀ j, j < wr.heap.size → upd lab wr.heap.size 0 j = lab j := fun j hj => upd_ne _ _ (by omega)
      cases hW : D.W with
      | none =>
        --BEGIN N
        have htv : m.tv = .pointer none := by
          have := hP.dk.wd
          rw [hW] at this
          exact this.2.1
        rw [htv] at d1
        have hna := step_none D (o i) hW
        clear hP htv hW
        go_wp2_with (first | (go_at_call 12; refine hold ?_))
        unfold Hid
        refine calls_nm fun w4 hw4 => ?_
        have B4 : Below wr.heap.size wr w4 := by rw [hw4]; (repeat (first | with_reducible exact Below.rf _ | with_reducible exact World.below_ext _ _ | with_reducible refine Below.ex ?_ _ | with_reducible refine Below.al ?_ _ | with_reducible refine Below.setCell ?_ (by simp) _ | with_reducible refine Below.drew ?_))
        have P4 := (HP.out.relab hud).below B4
        clear hw4
        refine (P4.call HS.out hin hn1 (HN2.out i hin)).mono ?_
        rintro e w5 ⟨l5, m5, av, rfl, hD5, hIv, hl5, hk5⟩
        have P5 := P4.next (o i) hD5 hl5 hk5
        obtain ⟨D', hD'⟩ : ∃ y, (D.step (o i)).1 = y := ⟨_, rfl⟩
        rw [hD'] at P5 hna
        have d3 : w5.cell? ⟨d, 3, none⟩ = some (.bool D'.ask) := P5.dk.b.is 3 (by omega)
        rw [hna] at d3
        have hdl5 := P5.dk.b.lt
        have HP5 := hid P5
        clear hIv hD5 hl5 hk5 B4 hud P4 HP c0 c1 c2 c3 c4 c5 c6 hsb hD' d1 hdl hna P5
        go_wp2
        go_roundw
        case rel => exact ⟨i + 1, l5, m5, D', by go_num, by omega, HP5.out⟩
        case measure => (simp [intOf] <;> omega)
        --END N
      | some X =>
        --BEGIN S
        have hw := hP.dk.wd
        rw [hW] at hw
        obtain ⟨fb0, M0, N0, n0, f1, f2, f3, -, hT2, -⟩ := hw
        rw [f2] at d1
        have HT2 := hid hT2
        have HW := hid hW
        clear hP f1 f2 f3 hT2 hW
        go_wp2_with (first | (go_at_call 19; refine hold ?_))
        unfold Hid
        refine calls_nm fun w3 hw3 => ?_
        have B3 : Below wr.heap.size wr w3 := by rw [hw3]; (repeat (first | with_reducible exact Below.rf _ | with_reducible exact World.below_ext _ _ | with_reducible refine Below.ex ?_ _ | with_reducible refine Below.al ?_ _ | with_reducible refine Below.setCell ?_ (by simp) _ | with_reducible refine Below.drew ?_))
        have X3 : Blk w3 wr.heap.size 7 (ocell (o i) (.slice (lao i) (o i).l.length (lcap i))) := by
          rw [hw3]
          refine ⟨by (simp <;> omega), fun i hi => ?_, fun i hi => by simp [go_sem, ↓IntWalk.iteOmega]⟩
          rcases (by omega : i = 0 ∨ i = 1 ∨ i = 2 ∨ i = 3 ∨ i = 4 ∨ i = 5 ∨ i = 6) with rfl | rfl | rfl | rfl | rfl | rfl | rfl <;> simp [go_sem, ↓IntWalk.iteOmega, ocell]
        have P3 := (HP.out.relab hud).below B3
        have T3 := (HT2.out.relab hud).below B3
        have hd3 := P3.dk.b.lt
        clear hw3
        refine (clone_any M0 X.T _ w3 T3).mono ?_
        rintro e w4 ⟨labc, Mc, rfl, hTc, hlc, hb4⟩
        have hud4 : ∀ j, j < w3.heap.size → (fun b => if b < w3.heap.size then upd lab wr.heap.size 0 b else 1) j = upd lab wr.heap.size 0 j := fun j hj => if_pos hj
        have P4 := (P3.relab hud4).below hb4
        have X4 := X3.below hb4
        have hx4 : (fun b => if b < w3.heap.size then upd lab wr.heap.size 0 b else 1) wr.heap.size = 0 := by
          rw [hud4 _ X3.lt]
          exact upd_at _ _ _
        have hl1 : ∀ j, w3.heap.size ≤ j → (fun b => if b < w3.heap.size then upd lab wr.heap.size 0 b else 1) j = 1 := fun j hj => if_neg (by omega)
        obtain ⟨l4, hl4⟩ : ∃ y, (fun b => if b < w3.heap.size then upd lab wr.heap.size 0 b else 1) = y := ⟨_, rfl⟩
        rw [hl4] at P4 hx4 hl1
        obtain ⟨xb, hxb⟩ : ∃ y, wr.heap.size = y := ⟨_, rfl⟩
        rw [hxb] at X4 hx4 ⊢
        have x0 : w4.cell? ⟨xb, 0, none⟩ = some (.int .i64 ((o i).K)) := X4.is 0 (by omega)
        have x1 : w4.cell? ⟨xb, 1, none⟩ = some (.int .i64 ((o i).A)) := X4.is 1 (by omega)
        have x2 : w4.cell? ⟨xb, 2, none⟩ = some (.int .i64 ((o i).B)) := X4.is 2 (by omega)
        have x3 : w4.cell? ⟨xb, 3, none⟩ = some (.int .i64 ((o i).C)) := X4.is 3 (by omega)
        have x4 : w4.cell? ⟨xb, 4, none⟩ = some (.int .i64 ((o i).D)) := X4.is 4 (by omega)
        have x5 : w4.cell? ⟨xb, 5, none⟩ = some (.int .i64 ((o i).E)) := X4.is 5 (by omega)
        have x6 : w4.cell? ⟨xb, 6, none⟩ = some (.slice (lao i) (o i).l.length (lcap i)) := X4.is 6 (by omega)
        have hxl := X4.lt
        have HP4 := hid P4
        have HX4 := hid X4
        have HTc := hid hTc
        have HWB := hid HP.out.wb
        have HFK := hid HP.out.fok
        have HLC := hid (And.intro hlc hl1)
        clear c0 c1 c2 c3 c4 c5 c6 hsb d1 hdl HP HT2 B3 X3 P3 T3 hud hud4 hl4 hxb P4 X4 hTc hb4 hlc hl1
        go_wp2_with (first | (go_at_call 12; refine hold ?_))
        unfold Hid
        refine (HP4.out.call HS.out hin hn1 (HN2.out i hin)).mono ?_
        rintro e w5 ⟨l5, m5, av, rfl, hD5, hIv, hl5, hk5⟩
        have P5 := HP4.out.next (o i) hD5 hl5 hk5
        have X5 := HX4.out.keptL hk5.k (by rw [hx4]; unfold doL; omega)
        have TC5 : TAt w5 labc Mc X.T := HTc.out.keptL (A := fun x => x = 0) (w' := w5) ⟨hk5.k.os, hk5.k.tape, hk5.k.output, hk5.size, fun k hk hk0 => by
          have h3 : w3.heap.size ≤ k := by
            rcases Nat.lt_or_ge k w3.heap.size with h | h
            · exact absurd (HLC.out.1 k h) hk0
            · exact h
          exact hk5.o k hk (HLC.out.2 k h3) (by omega)⟩ (by omega) (by omega) (by omega)
        have hsf := step_found D (o i) (fun Y hY => ⟨HFK.out Y hY, (HWB.out Y hY).ms⟩)
        obtain ⟨D', hD'⟩ : ∃ y, (D.step (o i)).1 = y := ⟨_, rfl⟩
        rw [hD'] at P5 hsf
        have HP5 := hid P5
        have hdl5 := P5.dk.b.lt
        have hxl5 := X5.lt
        have d3 : w5.cell? ⟨d, 3, none⟩ = some (.bool D'.ask) := P5.dk.b.is 3 (by omega)
        have d10 : w5.cell? ⟨d, 10, none⟩ = some (.int .u8 D'.pl.c) := P5.dk.b.is 10 (by omega)
        clear x0 x1 x2 x3 x4 x5 x6 hxl HP4 HX4 HTc HWB HFK HLC hIv hD5 hl5 hk5 hD' hx4 hd3
        by_cases ha : D'.ask = true
        · rw [ha] at d3
          by_cases hc : D'.pl.c = 0
          · rw [hc] at d10
            obtain ⟨X1, T', S', hX1, hX', hq, hpt, hfd, hkd⟩ := hsf ha hc
            obtain rfl : X = X1 := Option.some.inj (HW.out.symm.trans hX1)
            clear hsf ha hX1 HW
            generalize hoi : o i = oi at *
            have hw := P5.dk.wd
            rw [hX'] at hw
            obtain ⟨fb, M, N, n5, f1, f2, f3, hF, hT5, hPP⟩ := hw
            obtain ⟨po, pc, hpa, hpcc⟩ := P5.dk.pp.ex
            obtain ⟨dq, dc, hda, hdcc⟩ := P5.dk.pd.ex
            obtain ⟨go, gc, hgv, hgcc⟩ := P5.dk.g.ex
            have d0 : w5.cell? ⟨d, 0, none⟩ = some (.pointer (some ⟨fb, 0, none⟩)) := by
              rw [P5.dk.b.is 0 (by omega)]
              show some m5.fv = _
              rw [f1]
            have d1 : w5.cell? ⟨d, 1, none⟩ = some (.pointer (some ⟨M.t, 0, none⟩)) := by
              rw [P5.dk.b.is 1 (by omega)]
              show some m5.tv = _
              rw [f2]
            have d4 : w5.cell? ⟨d, 4, none⟩ = some (.int .i64 (D'.q.r)) := P5.dk.b.is 4 (by omega)
            have d5 : w5.cell? ⟨d, 5, none⟩ = some (.int .i64 (D'.q.s)) := P5.dk.b.is 5 (by omega)
            have d6 : w5.cell? ⟨d, 6, none⟩ = some (.int .i64 (D'.q.t)) := P5.dk.b.is 6 (by omega)
            have d7 : w5.cell? ⟨d, 7, none⟩ = some m5.gv := P5.dk.b.is 7 (by omega)
            have d8 : w5.cell? ⟨d, 8, none⟩ = some (.int .i64 (D'.q.h)) := P5.dk.b.is 8 (by omega)
            have d9 : w5.cell? ⟨d, 9, none⟩ = some (.int .i64 (D'.q.m)) := P5.dk.b.is 9 (by omega)
            have d11 : w5.cell? ⟨d, 11, none⟩ = some (.int .i64 (D'.pl.t)) := P5.dk.b.is 11 (by omega)
            have d12 : w5.cell? ⟨d, 12, none⟩ = some m5.pa := P5.dk.b.is 12 (by omega)
            have d13 : w5.cell? ⟨d, 13, none⟩ = some m5.da := P5.dk.b.is 13 (by omega)
            have d14 : w5.cell? ⟨d, 14, none⟩ = some (.int .i64 (D'.pl.x)) := P5.dk.b.is 14 (by omega)
            have hIp := P5.dk.pp
            have hId := P5.dk.pd
            have hIg := P5.dk.g
            have x0 : w5.cell? ⟨xb, 0, none⟩ = some (.int .i64 (oi.K)) := X5.is 0 (by omega)
            rw [hpa] at d12 hIp
            rw [hda] at d13 hId
            rw [hgv] at d7 hIg
            rw [hpt] at d11
            rw [hq] at d4 d5 d6 d7 d8 d9 hIg
            clear P5 X5 hX' f1 f2 f3 hPP hpa hda hgv hpt hq hoi hc
            obtain ⟨q, hq⟩ : ∃ y, rqOf oi = y := ⟨_, rfl⟩
            rw [hq] at d4 d5 d6 d7 d8 d9 d11 hfd hkd hIg
            obtain ⟨x, hx⟩ : ∃ y, D'.pl.x = y := ⟨_, rfl⟩
            rw [hx] at d14
            obtain ⟨path, hpath⟩ : ∃ y, D'.pl.path = y := ⟨_, rfl⟩
            obtain ⟨done, hdone⟩ : ∃ y, D'.pl.done = y := ⟨_, rfl⟩
            have hlen := hfd.len
            have hris := hfd.rise
            have hrk := rok_of hF.ok hfd.rc
            have hln := hfd.len2 hF.ok
            rw [hpath] at d12 hIp hkd hlen hpcc hln
            rw [hdone] at d13 hId hris hdcc
            have HRS := hid hris.2
            have hdl := hris.1
            have hgk := hrk.gok.1
            have ht0 := hrk.t
            have hbd := TC5.bd.base
            obtain ⟨pn, hpn⟩ : ∃ y, path.length = y := ⟨_, rfl⟩
            obtain ⟨dn, hdn⟩ : ∃ y, done.length = y := ⟨_, rfl⟩
            obtain ⟨gn, hgn⟩ : ∃ y, q.gl.length = y := ⟨_, rfl⟩
            rw [hpn] at d12 hIp hlen hln
            rw [hdn] at d13 hId hdl
            rw [hgn] at d7 hIg hdl hgk
            have hdl3 : dn ≤ 300 := by omega
            clear hdl
            have HPN := hid hpn
            have HDN := hid hdn
            have HF5 := hid hF
            have HT5 := hid hT5
            have HTC := hid TC5
            have HIP := hid hIp
            have HID := hid hId
            have HKD := hid hkd
            clear hq hx hpath hdone hfd hris hrk hpn hdn hF hT5 TC5 hIp hId hkd hIg hpcc hdcc hgcc hgn
            go_wp2
            refine region_via (e8R d q x (.slice go gn gc) (.slice po pn pc) (.slice dq dn dc) w5) ?_ ?_
            · --BEGIN 1
              refine wp_region_tree 11 (fun w' => w'.cell? ⟨d, 4, none⟩ = some (.int .i64 (q.r)) ∧ w'.cell? ⟨d, 5, none⟩ = some (.int .i64 (q.s)) ∧ w'.cell? ⟨d, 6, none⟩ = some (.int .i64 (q.t)) ∧ w'.cell? ⟨d, 7, none⟩ = some (.slice go gn gc) ∧ w'.cell? ⟨d, 8, none⟩ = some (.int .i64 (q.h)) ∧ w'.cell? ⟨d, 9, none⟩ = some (.int .i64 (q.m)) ∧ w'.cell? ⟨d, 10, none⟩ = some (.int .u8 0) ∧ w'.cell? ⟨d, 11, none⟩ = some (.int .i64 (q.t)) ∧ w'.cell? ⟨d, 12, none⟩ = some (.slice po pn pc) ∧ w'.cell? ⟨d, 13, none⟩ = some (.slice dq dn dc) ∧ w'.cell? ⟨d, 14, none⟩ = some (.int .i64 (x))) (.q 0 false (.q 1 false (.q 2 false (.q 3 true (.q 4 false (.q 5 false (.q 6 false (.q 7 true (.two 8 9 (.one 9 true (.one 10 true (.one 11 false .nil))) (.one 8 true (.one 10 true (.one 11 false .nil)))))))))))) (by kernel_rfl) (by kernel_rfl) (by kernel_rfl) ?_ ?_
              · simp [go_sem, ↓IntWalk.iteOmega, *]
              repeat (first | (refine wpTr_qf (v := ?_) rfl rfl ?_ ?_; rotate_left; focus (intro w; go_simp; (try (with_reducible rfl)); done); try simp only [List.getElem_toArray, List.getElem_cons_zero, List.getElem_cons_succ, Act.put, List.setIfInBounds_toArray, List.set_cons_zero, List.set_cons_succ]) | (refine wpTr_qt (v := ?_) rfl rfl ?_ ?_; rotate_left; focus (intro w hSw; (try dsimp only at hSw); go_simp; (try (with_reducible rfl)); done); try simp only [List.getElem_toArray, List.getElem_cons_zero, List.getElem_cons_succ, Act.put, List.setIfInBounds_toArray, List.set_cons_zero, List.set_cons_succ]))
              refine wpTr_two rfl rfl rfl rfl ?_ ?_
              · intro K' hK
                go_simp
                refine hK.out _ _ (by simp [go_sem, ↓IntWalk.iteOmega, *]) ?_
                clear hK K'
                refine wpTr_one rfl rfl (fun K hK => ?_)
                go_simp
                refine hK.out _ _ (fun _ => by simp [go_sem, ↓IntWalk.iteOmega, *]) ?_
                clear hK K
                refine wpTr_one rfl rfl (fun K hK => ?_)
                go_simp
                refine hK.out _ _ (fun _ => by simp [go_sem, ↓IntWalk.iteOmega, *]) ?_
                clear hK K
                refine wpTr_one rfl rfl (fun K hK => ?_)
                go_simp
                refine hK.out _ _ (fun h => by cases h) ?_
                clear hK K
                refine wpTr_nil ?_
                refine NoPanic.normal ?_
                refine ⟨rfl, w5.heap.size, w5.heap.size + 1, by omega, by omega, by (repeat (first | with_reducible exact Below.rf _ | with_reducible exact World.below_ext _ _ | with_reducible refine Below.ex ?_ _ | with_reducible refine Below.al ?_ _ | with_reducible refine Below.setCell ?_ (by simp) _ | with_reducible refine Below.drew ?_)), ?_, ?_, by simp only [Act.put, List.setIfInBounds_toArray, List.set_cons_zero, List.set_cons_succ, List.getElem_toArray, List.getElem_cons_zero, List.getElem_cons_succ]⟩
                · refine ⟨by (simp <;> omega), fun i hi => ?_, fun i hi => by simp [go_sem, ↓IntWalk.iteOmega]⟩
                  rcases (by omega : i = 0 ∨ i = 1 ∨ i = 2 ∨ i = 3 ∨ i = 4 ∨ i = 5) with rfl | rfl | rfl | rfl | rfl | rfl <;> simp [go_sem, ↓IntWalk.iteOmega, rqc]
                · refine ⟨by (simp <;> omega), fun i hi => ?_, fun i hi => by simp [go_sem, ↓IntWalk.iteOmega]⟩
                  rcases (by omega : i = 0 ∨ i = 1 ∨ i = 2 ∨ i = 3 ∨ i = 4) with rfl | rfl | rfl | rfl | rfl <;> simp [go_sem, ↓IntWalk.iteOmega, plc]
              · intro K' hK
                go_simp
                refine hK.out _ _ (by simp [go_sem, ↓IntWalk.iteOmega, *]) ?_
                clear hK K'
                refine wpTr_one rfl rfl (fun K hK => ?_)
                go_simp
                refine hK.out _ _ (fun _ => by simp [go_sem, ↓IntWalk.iteOmega, *]) ?_
                clear hK K
                refine wpTr_one rfl rfl (fun K hK => ?_)
                go_simp
                refine hK.out _ _ (fun _ => by simp [go_sem, ↓IntWalk.iteOmega, *]) ?_
                clear hK K
                refine wpTr_one rfl rfl (fun K hK => ?_)
                go_simp
                refine hK.out _ _ (fun h => by cases h) ?_
                clear hK K
                refine wpTr_nil ?_
                refine NoPanic.normal ?_
                refine ⟨rfl, w5.heap.size + 1, w5.heap.size, by omega, by omega, by (repeat (first | with_reducible exact Below.rf _ | with_reducible exact World.below_ext _ _ | with_reducible refine Below.ex ?_ _ | with_reducible refine Below.al ?_ _ | with_reducible refine Below.setCell ?_ (by simp) _ | with_reducible refine Below.drew ?_)), ?_, ?_, by simp only [Act.put, List.setIfInBounds_toArray, List.set_cons_zero, List.set_cons_succ, List.getElem_toArray, List.getElem_cons_zero, List.getElem_cons_succ]⟩
                · refine ⟨by (simp <;> omega), fun i hi => ?_, fun i hi => by simp [go_sem, ↓IntWalk.iteOmega]⟩
                  rcases (by omega : i = 0 ∨ i = 1 ∨ i = 2 ∨ i = 3 ∨ i = 4 ∨ i = 5) with rfl | rfl | rfl | rfl | rfl | rfl <;> simp [go_sem, ↓IntWalk.iteOmega, rqc]
                · refine ⟨by (simp <;> omega), fun i hi => ?_, fun i hi => by simp [go_sem, ↓IntWalk.iteOmega]⟩
                  rcases (by omega : i = 0 ∨ i = 1 ∨ i = 2 ∨ i = 3 ∨ i = 4) with rfl | rfl | rfl | rfl | rfl <;> simp [go_sem, ↓IntWalk.iteOmega, plc]
              --END 1
            · --BEGIN 2
              rintro a w7 ⟨rb, pb, hrb, hpb, hb7, hR7, hP7, rfl⟩
              simp only [Act.put, List.setIfInBounds_toArray, List.set_cons_zero, List.set_cons_succ]
              have HE7 : Hid (E8 w7 l5 labc d xb rb pb fb M Mc X.F X.T T' q x oi.K (.slice go gn gc) (.slice po pn pc) (.slice dq dn dc) path done) := ⟨HF5.out.below hb7, HT5.out.below hb7, HTC.out.below hb7, (World.cell?_of_block (hb7.block d hdl5)).trans d0, (World.cell?_of_block (hb7.block d hdl5)).trans d1, Nat.lt_of_lt_of_le hdl5 hb7.size, hR7, hP7, HIP.out.keptL (A := fun _ => False) (KeptL.of_below hb7) (fun _ h => h.elim), HID.out.keptL (A := fun _ => False) (KeptL.of_below hb7) (fun _ h => h.elim), (World.cell?_of_block (hb7.block xb hxl5)).trans x0, Nat.lt_of_lt_of_le hxl5 hb7.size⟩
              have r2 : w7.cell? ⟨rb, 2, none⟩ = some (.int .i64 (q.t)) := hR7.is 2 (by omega)
              have hrl := hR7.lt
              have HP7 := hid (HP5.out.below hb7)
              clear hb7 hR7 hP7 HF5 HT5 HTC HIP HID d0 d1 d3 d4 d5 d6 d7 d8 d9 d10 d11 d12 d13 d14 x0 hdl5 hxl5 HP5 hrb hpb
              go_wp2
              refine tt_loop w7 l5 labc d xb rb pb fb pn pc dn dc M Mc X.F X.T T' q x oi.K (.slice go gn gc) po dq path done HE7.out HKD.out HRS.out HPN.out HDN.out ⟨by omega, by omega⟩ (by omega) ⟨by omega, by omega⟩ _ _ _ _ _ _ _ _ _ _ _ _ _ _ _ _ _ _ _ _ _ _ _ _ _ _ _ _ _ _ _ _ _ _ _ _ _ _ _ _ _ _ _ _ _ _ _ _ _ _ _ _ _ _ _ _ _ _ _ _ _ _ _ _ _ _ _ _ _ _ _ _ _ _ _ _ _ _ _ _ _ _ _ _ _ _ _ _ _ _ _ _ _ _ _ _ _ _ _ _ _ _ _ _ _ _ _ _ _ _ _ _ _ _ _ _ _ _ _ _ _ _ _ _ _ _ _ _ _ _ _ _ _ _ _ _ _ _ _ _ _ _ _ _ _ _ _ _ _ _ _ _ _ _ _ _ ?_
              intro aL wr2 hE
              obtain ⟨hBL, hE⟩ := hE
              obtain ⟨u2, hE⟩ := hE
              obtain ⟨u9, hE⟩ := hE
              obtain ⟨u10, hE⟩ := hE
              obtain ⟨u11, hE⟩ := hE
              obtain ⟨u13, hE⟩ := hE
              obtain ⟨u14, hE⟩ := hE
              obtain ⟨u63, hE⟩ := hE
              obtain ⟨u64, hE⟩ := hE
              obtain ⟨u65, hE⟩ := hE
              obtain ⟨u66, hE⟩ := hE
              obtain ⟨u67, hE⟩ := hE
              obtain ⟨u68, hE⟩ := hE
              obtain ⟨u69, hE⟩ := hE
              obtain ⟨u70, hE⟩ := hE
              obtain ⟨u71, hE⟩ := hE
              obtain ⟨u72, hE⟩ := hE
              obtain ⟨u73, hE⟩ := hE
              obtain ⟨u74, hE⟩ := hE
              obtain ⟨u75, hE⟩ := hE
              obtain ⟨u76, hE⟩ := hE
              obtain ⟨u77, hE⟩ := hE
              obtain ⟨u78, hE⟩ := hE
              obtain ⟨u79, hE⟩ := hE
              obtain ⟨u80, hE⟩ := hE
              obtain ⟨u81, hE⟩ := hE
              obtain ⟨u82, hE⟩ := hE
              obtain ⟨u83, hE⟩ := hE
              obtain ⟨u84, hE⟩ := hE
              obtain ⟨u85, hE⟩ := hE
              obtain ⟨u86, hE⟩ := hE
              obtain ⟨u87, hE⟩ := hE
              obtain ⟨u88, hE⟩ := hE
              obtain ⟨u89, hE⟩ := hE
              obtain ⟨u90, hE⟩ := hE
              obtain ⟨u91, hE⟩ := hE
              obtain ⟨u92, hE⟩ := hE
              obtain ⟨u93, hE⟩ := hE
              obtain ⟨u94, hE⟩ := hE
              obtain ⟨u95, hE⟩ := hE
              obtain ⟨u96, hE⟩ := hE
              obtain ⟨u97, hE⟩ := hE
              obtain ⟨u98, hE⟩ := hE
              obtain ⟨u99, hE⟩ := hE
              obtain ⟨u100, hE⟩ := hE
              obtain ⟨u101, hE⟩ := hE
              obtain ⟨u102, hE⟩ := hE
              obtain ⟨u103, hE⟩ := hE
              obtain ⟨u104, hE⟩ := hE
              obtain ⟨u105, hE⟩ := hE
              obtain ⟨u106, hE⟩ := hE
              obtain ⟨u107, hE⟩ := hE
              obtain ⟨u108, hE⟩ := hE
              obtain ⟨u109, hE⟩ := hE
              obtain ⟨u110, hE⟩ := hE
              obtain ⟨u111, hE⟩ := hE
              obtain ⟨u112, hE⟩ := hE
              obtain ⟨u113, hE⟩ := hE
              obtain ⟨u114, hE⟩ := hE
              obtain ⟨u115, hE⟩ := hE
              obtain ⟨u116, hE⟩ := hE
              obtain ⟨u117, hE⟩ := hE
              obtain ⟨u118, hE⟩ := hE
              obtain ⟨u119, hE⟩ := hE
              obtain ⟨u120, hE⟩ := hE
              obtain ⟨u121, hE⟩ := hE
              obtain ⟨u122, hE⟩ := hE
              obtain ⟨u123, hE⟩ := hE
              obtain ⟨u124, hE⟩ := hE
              obtain ⟨u125, hE⟩ := hE
              obtain ⟨u126, hE⟩ := hE
              obtain ⟨u127, hE⟩ := hE
              obtain ⟨u128, hE⟩ := hE
              obtain ⟨u129, hE⟩ := hE
              obtain ⟨u130, hE⟩ := hE
              obtain ⟨u131, hE⟩ := hE
              obtain ⟨u132, hE⟩ := hE
              obtain ⟨u133, hE⟩ := hE
              obtain ⟨u134, hE⟩ := hE
              obtain ⟨u135, hE⟩ := hE
              obtain ⟨u136, hE⟩ := hE
              obtain ⟨u137, hE⟩ := hE
              obtain ⟨u138, hE⟩ := hE
              obtain ⟨u139, hE⟩ := hE
              obtain ⟨u140, hE⟩ := hE
              obtain ⟨u141, hE⟩ := hE
              obtain ⟨u142, hE⟩ := hE
              obtain ⟨u143, hE⟩ := hE
              obtain ⟨u144, hE⟩ := hE
              obtain ⟨u145, hE⟩ := hE
              obtain ⟨u146, hE⟩ := hE
              obtain ⟨u147, hE⟩ := hE
              obtain ⟨u148, hE⟩ := hE
              obtain ⟨u149, hE⟩ := hE
              obtain ⟨u150, hE⟩ := hE
              obtain ⟨u151, hE⟩ := hE
              obtain ⟨u152, hE⟩ := hE
              obtain ⟨u153, hE⟩ := hE
              obtain ⟨u154, hE⟩ := hE
              obtain ⟨u155, hE⟩ := hE
              obtain ⟨u156, hE⟩ := hE
              obtain ⟨u157, hE⟩ := hE
              obtain ⟨u158, hE⟩ := hE
              obtain ⟨u159, hE⟩ := hE
              obtain rfl := hE
              have HBL := hid hBL
              clear hBL r2 hrl
              go_wp2
              go_roundw
              case rel => exact ⟨i + 1, l5, m5, D', by go_num, by omega, HP7.out.below HBL.out⟩
              case measure => (simp [intOf] <;> omega)
              --END 2
          · --BEGIN T
            have dc : ((D'.pl.c : Int) != 0) = true := by simp; exact hc
            clear hsf ha hc P5 X5 TC5 HW
            go_wp2
            go_roundw
            case rel => exact ⟨i + 1, l5, m5, D', by go_num, by omega, HP5.out⟩
            case measure => (simp [intOf] <;> omega)
            --END T
        · --BEGIN U
          rw [Bool.not_eq_true] at ha
          rw [ha] at d3
          clear hsf ha P5 X5 TC5 HW
          go_wp2
          go_roundw
          case rel => exact ⟨i + 1, l5, m5, D', by go_num, by omega, HP5.out⟩
          case measure => (simp [intOf] <;> omega)
          --END U
        --END S
    · have di : decide ((i : Int) < (n : Int)) = false := by simp; omega
      have din : decide (i < n) = false := by simp; omega
      have HP := hid hP
      clear hP
      go_wp2
      go_ret
      exact ⟨rfl, HP.out.bl⟩
end Go.Proofs.Qxb6500716a
