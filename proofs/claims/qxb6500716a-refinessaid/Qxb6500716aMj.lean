/-
  Step: World.
-/
import Derived.Test.Qxb6500716aMd
import Derived.Test.Qxb6500716aDi
namespace Go.Proofs.Qxb6500716a
open Go.RowKit Go.Maps
set_option linter.unusedSimpArgs false
set_option linter.unusedVariables false
set_option maxRecDepth 20000
set_option maxHeartbeats 4000000
/-- A model as it begins. -/
def mdNew (F : FS) (cap : Nat) : MW := ⟨F, stN F (TS.new F.n F.bays.length cap) F.bays.length⟩
def mwAns (Y : Option MW) (o : Opr) : Option MW × Nat × List Int :=
  match FS.new o.A o.B o.C o.l with
  | none => (Y, 2, [])
  | some F => if o.D < (F.bays.length : Int) ∨ 1536 < o.D then (Y, 2, []) else (some (mdNew F o.D.toNat), 0, [(F.n : Int)])
theorem MoS.world {lab : Nat → Nat} {w : World} {mb : Nat} {o : Opr} {v : Value} {wr : World} {l : Nat → Nat} {fv tv : Value} {Y : Option MW} {fb : Nat} {F : FS} {M : TM} {T : TS} (h : MoS lab w mb o v wr l fv tv Y) (hd : mb < w.heap.size) (hF : FAt wr l fb F) (hT : TAt wr l M T) : MoS lab w mb o v ((wr.setCell ⟨mb, 0, none⟩ (.pointer (some ⟨fb, 0, none⟩))).setCell ⟨mb, 1, none⟩ (.pointer (some ⟨M.t, 0, none⟩))) l (.pointer (some ⟨fb, 0, none⟩)) (.pointer (some ⟨M.t, 0, none⟩)) (some ⟨F, T⟩) := by
  have kb : KeptBut mb wr ((wr.setCell ⟨mb, 0, none⟩ (.pointer (some ⟨fb, 0, none⟩))).setCell ⟨mb, 1, none⟩ (.pointer (some ⟨M.t, 0, none⟩))) := by
    refine KeptBut.set ?_ (Or.inl (by rfl)) _
    refine KeptBut.set ?_ (Or.inl (by rfl)) _
    exact KeptBut.refl _ _
  have k1 := KeptL.of_but (lab := l) (A := fun x => x = 1) kb h.a.lb
  refine ⟨⟨?_, h.a.lb, fb, M, rfl, rfl, hF.keptL k1 (fun x hx => by omega), hT.keptL k1 (by omega) (by omega) (by omega)⟩, h.bx.kept kb (by omega), h.lx, bq_map h.bq (fun a0 a1 hy => hy.kept kb (by omega)), h.lq, h.iv.keptL k1 (fun x hx => by omega), h.g, h.k.trans' (k1.mono (fun x hx => by unfold mdL; omega)) h.g⟩
  refine ((h.a.b.set 0 _ (by omega)).set 1 _ (by omega)).congr (fun i hi => ?_)
  rcases (by omega : i = 0 ∨ i = 1) with rfl | rfl <;> rfl
set_option maxHeartbeats 40000000 in
theorem st_world (mb : Nat) (fv tv : Value) (o : Opr) (v : Value) (lab : Nat → Nat) (w : World) (Y : Option MW) (h : MdAt w lab mb fv tv Y) (hv : Ints w lab v o.l) (hK : o.K = 0) :
    Calls Try.prog 13 #[.pointer (some ⟨mb, 0, none⟩), .agg #[.int .i64 ((o).K), .int .i64 ((o).A), .int .i64 ((o).B), .int .i64 ((o).C), .int .i64 ((o).D), .int .i64 ((o).E), v]] w (stPost lab mb (mwAns Y o) w) := by
  obtain ⟨ans, hans⟩ : ∃ y, mwAns Y o = y := ⟨_, rfl⟩
  rw [hans]
  have HANS := hid hans
  obtain ⟨post, hpo⟩ : ∃ y, stPost lab mb ans w = y := ⟨_, rfl⟩
  rw [hpo]
  have HPO := hid hpo
  clear hans hpo
  obtain ⟨vo, vc, hvv, -⟩ := hv.ex
  have HV := hid hv
  have HD := hid h
  have hdl := h.b.lt
  obtain ⟨K, A, B, C, Dd, E, l⟩ := o
  simp only at hK
  subst hK
  try simp only at *
  have NF := hid (fun (lb : Nat → Nat) (w' : World) (hI : Ints w' lb v l) => newF_any A B C lb v l w' hI)
  subst hvv
  try simp only at *
  obtain ⟨ln, hln⟩ : ∃ y, l.length = y := ⟨_, rfl⟩
  rw [hln] at HV NF ⊢
  have HLN := hid hln
  clear h hv hln
  go_enter Try.func13, Try.ntmps13
  go_wp2_with (first | (go_at_call 46; refine hold ?_))
  unfold Hid
  refine calls_nm fun w1 hw1 => ?_
  obtain ⟨l1, hS1⟩ := st_start (o := ⟨0, A, B, C, Dd, E, l⟩) HD.out HV.out (.int .u8 0) (.slice none 0 0) w1 hw1
  clear hw1
  refine (NF.out l1 w1 hS1.iv).mono ?_
  rintro e w2 ⟨hb2, hr2⟩
  cases hFN : FS.new A B C l with
  | none =>
    rw [hFN] at hr2
    simp only at hr2
    subst hr2
    have HAN : Hid (ans = (Y, 2, [])) := by
      unfold Hid
      rw [← HANS.out]
      unfold mwAns
      simp only
      rw [hFN]
    have S2 := hS1.below hb2
    obtain ⟨q0, q1, q3⟩ := S2.bq
    have k0 : (w2).cell? ⟨w.heap.size + 1, 0, none⟩ = some q0 := q3.is 0 (by omega)
    have k1 : (w2).cell? ⟨w.heap.size + 1, 1, none⟩ = some q1 := q3.is 1 (by omega)
    have kz0 := q3.fz 0 (by omega)
    have kz1 := q3.fz 1 (by omega)
    have kl := q3.lt
    clear q3
    have HS2 := hid S2
    clear S2 hS1 hb2 NF hFN
    go_wp2
    first | with_reducible refine wp_region_ext2 (by kernel_rfl) (by kernel_rfl) ?_ | refine wp_region_ext (by kernel_rfl) (by kernel_rfl) ?_
    repeat (go_big_quiet_step (fail))
    refine wpQuiet_nil ?_
    rintro _ ⟨z, rfl⟩
    go_wp2
    refine bodyPost_ret (v := .agg #[.int .u8 2, .slice none 0 0]) (by simp [results, Try.results13, go_sem, ↓IntWalk.iteOmega, k0, k1]) rfl ?_
    rw [← HPO.out, HAN.out]
    exact (st_fin HS2.out hdl 2 _ [] (Ints.nil _ _)).below (World.below_ext _ _)
  | some F =>
    rw [hFN] at hr2
    simp only at hr2
    obtain ⟨fb, rfl, hfs, hfa⟩ := hr2
    have hud : ∀ j, j < w1.heap.size → (fun b => if b < w1.heap.size then l1 b else 0) j = l1 j := fun j hj => if_pos hj
    have hF2 := hfa (fun b => if b < w1.heap.size then l1 b else 0) (fun j hj => if_neg (by omega))
    have S2 := (hS1.relab hud).below hb2
    obtain ⟨l2, hl2⟩ : ∃ y, (fun b => if b < w1.heap.size then l1 b else 0) = y := ⟨_, rfl⟩
    rw [hl2] at hF2 S2
    have RB := hid (fun (w' : World) (h : Below w2.heap.size w2 w') => robots_any fb F l2 w' (hF2.below h))
    have CL := hid (fun (w' : World) (h : Below w2.heap.size w2 w') => cells_any fb F l2 w' (hF2.below h))
    have x4 : w2.cell? ⟨w.heap.size, 4, none⟩ = some (.int .i64 (Dd)) := S2.bx.is 4 (by omega)
    have hx2 := S2.bx.lt
    have hnb := hF2.ok.nb
    have hnn := hF2.ok.n
    have HS2 := hid S2
    have HF2 := hid hF2
    clear S2 hS1 hb2 hud hfa hl2 hfs NF hF2
    obtain ⟨nb, hnbe⟩ : ∃ y, F.bays.length = y := ⟨_, rfl⟩
    rw [hnbe] at RB hnb
    have HNB := hid hnbe
    clear hnbe
    by_cases g1 : Dd < (nb : Int)
    · have HAN : Hid (ans = (Y, 2, [])) := by
        unfold Hid
        rw [← HANS.out]
        unfold mwAns
        simp only
        rw [hFN]
        simp only
        rw [if_pos (Or.inl (by rw [HNB.out]; exact g1))]
      have dg : decide (Dd < (nb : Int)) = true := by simp [g1]
      obtain ⟨q0, q1, q3⟩ := HS2.out.bq
      have k0 : (w2).cell? ⟨w.heap.size + 1, 0, none⟩ = some q0 := q3.is 0 (by omega)
      have k1 : (w2).cell? ⟨w.heap.size + 1, 1, none⟩ = some q1 := q3.is 1 (by omega)
      have kz0 := q3.fz 0 (by omega)
      have kz1 := q3.fz 1 (by omega)
      have kl := q3.lt
      clear q3
      clear hFN
      go_wp2
      first | with_reducible refine wp_region_ext2 (by kernel_rfl) (by kernel_rfl) ?_ | refine wp_region_ext (by kernel_rfl) (by kernel_rfl) ?_
      repeat (go_big_quiet_step ((go_at_call 23; exact Calls.ext_of_same (RB.out _ (by (repeat (first | with_reducible exact Below.rf _ | with_reducible exact World.below_ext _ _ | with_reducible refine Below.ex ?_ _ | with_reducible refine Below.al ?_ _ | with_reducible refine Below.setCell ?_ (by simp) _ | with_reducible refine Below.drew ?_)))))))
      refine wpQuiet_nil ?_
      rintro _ ⟨z, rfl⟩
      go_wp2
      refine bodyPost_ret (v := .agg #[.int .u8 2, .slice none 0 0]) (by simp [results, Try.results13, go_sem, ↓IntWalk.iteOmega, k0, k1]) rfl ?_
      rw [← HPO.out, HAN.out]
      exact (st_fin HS2.out hdl 2 _ [] (Ints.nil _ _)).below (World.below_ext _ _)
    · have dg : decide (Dd < (nb : Int)) = false := by simp; omega
      by_cases g2 : 1536 < Dd
      · have HAN : Hid (ans = (Y, 2, [])) := by
          unfold Hid
          rw [← HANS.out]
          unfold mwAns
          simp only
          rw [hFN]
          simp only
          rw [if_pos (Or.inr g2)]
        have dg2 : decide (1536 < Dd) = true := by simp [g2]
        obtain ⟨q0, q1, q3⟩ := HS2.out.bq
        have k0 : (w2).cell? ⟨w.heap.size + 1, 0, none⟩ = some q0 := q3.is 0 (by omega)
        have k1 : (w2).cell? ⟨w.heap.size + 1, 1, none⟩ = some q1 := q3.is 1 (by omega)
        have kz0 := q3.fz 0 (by omega)
        have kz1 := q3.fz 1 (by omega)
        have kl := q3.lt
        clear q3
        clear hFN
        go_wp2
        first | with_reducible refine wp_region_ext2 (by kernel_rfl) (by kernel_rfl) ?_ | refine wp_region_ext (by kernel_rfl) (by kernel_rfl) ?_
        repeat (go_big_quiet_step ((go_at_call 23; exact Calls.ext_of_same (RB.out _ (by (repeat (first | with_reducible exact Below.rf _ | with_reducible exact World.below_ext _ _ | with_reducible refine Below.ex ?_ _ | with_reducible refine Below.al ?_ _ | with_reducible refine Below.setCell ?_ (by simp) _ | with_reducible refine Below.drew ?_)))))))
        refine wpQuiet_nil ?_
        rintro _ ⟨z, rfl⟩
        go_wp2
        refine bodyPost_ret (v := .agg #[.int .u8 2, .slice none 0 0]) (by simp [results, Try.results13, go_sem, ↓IntWalk.iteOmega, k0, k1]) rfl ?_
        rw [← HPO.out, HAN.out]
        exact (st_fin HS2.out hdl 2 _ [] (Ints.nil _ _)).below (World.below_ext _ _)
      · have dg2 : decide (1536 < Dd) = false := by simp; omega
        obtain ⟨cap, rfl⟩ : ∃ c : Nat, Dd = c := ⟨Dd.toNat, by omega⟩
        have dgn : decide (cap < nb) = false := by simp; omega
        have dg2n : decide (1536 < cap) = false := by simp; omega
        have HAN : Hid (ans = (some (mdNew F cap), 0, [(F.n : Int)])) := by
          unfold Hid
          rw [← HANS.out]
          unfold mwAns
          simp only
          rw [hFN]
          simp only
          rw [if_neg (by rw [HNB.out]; omega), Int.toNat_natCast]
        clear hFN
        obtain ⟨fn, hfn⟩ : ∃ y, F.n = y := ⟨_, rfl⟩
        rw [hfn] at CL hnn
        have HFN := hid hfn
        clear hfn
        go_wp2
        first | with_reducible refine wp_region_ext2 (by kernel_rfl) (by kernel_rfl) ?_ | refine wp_region_ext (by kernel_rfl) (by kernel_rfl) ?_
        repeat (go_big_quiet_step ((go_at_call 23; exact Calls.ext_of_same (RB.out _ (by (repeat (first | with_reducible exact Below.rf _ | with_reducible exact World.below_ext _ _ | with_reducible refine Below.ex ?_ _ | with_reducible refine Below.al ?_ _ | with_reducible refine Below.setCell ?_ (by simp) _ | with_reducible refine Below.drew ?_)))))))
        refine wpQuiet_nil ?_
        rintro _ ⟨z, rfl⟩
        have hb3 := World.below_ext w2 z
        have S3 := HS2.out.below hb3
        have F3 := HF2.out.below hb3
        generalize w2.ext z = w3 at *
        have NT := hid (fun (w' : World) => newTable_any fn nb cap l2 w' ⟨hnn.1, by omega⟩ hnb (by omega))
        have RB3 := hid (fun (w' : World) (h : Below w3.heap.size w3 w') => RB.out w' (hb3.trans (h.mono hb3.size)))
        have CL3 := hid (fun (w' : World) (h : Below w3.heap.size w3 w') => CL.out w' (hb3.trans (h.mono hb3.size)))
        clear x4 hx2 HS2 HF2 RB CL hb3
        have x4 : w3.cell? ⟨w.heap.size, 4, none⟩ = some (.int .i64 (cap)) := S3.bx.is 4 (by omega)
        have hx3 := S3.bx.lt
        have hd3 := S3.a.b.lt
        have HS3 := hid S3
        have HF3 := hid F3
        clear S3 F3
        go_wp2
        refine wp_region_tree 15 (fun w' => w'.cell? ⟨w.heap.size, 4, none⟩ = some (.int .i64 (cap))) (.q 0 false (.q 1 false (.q 2 false (.q 3 false (.q 5 false (.q 7 false (.q 8 true (.one 4 true (.one 6 true (.one 9 true (.q 10 false (.q 11 false (.one 12 true (.q 13 false (.q 14 false (.one 15 false .nil)))))))))))))))) (by kernel_rfl) (by kernel_rfl) (by kernel_rfl) ?_ ?_
        · simp [go_sem, ↓IntWalk.iteOmega, *]
        repeat (first | (refine wpTr_qf (v := ?_) rfl rfl ?_ ?_; rotate_left; focus (intro w; go_simp; (try (with_reducible rfl)); done); try simp only [List.getElem_toArray, List.getElem_cons_zero, List.getElem_cons_succ, Act.put, List.setIfInBounds_toArray, List.set_cons_zero, List.set_cons_succ]) | (refine wpTr_qt (v := ?_) rfl rfl ?_ ?_; rotate_left; focus (intro w hSw; (try dsimp only at hSw); go_simp; (try (with_reducible rfl)); done); try simp only [List.getElem_toArray, List.getElem_cons_zero, List.getElem_cons_succ, Act.put, List.setIfInBounds_toArray, List.set_cons_zero, List.set_cons_succ]))
        refine wpTr_one rfl rfl (fun K hK => ?_)
        go_simp
        go_at_call 30
        refine (CL3.out _ (by (repeat (first | with_reducible exact Below.rf _ | with_reducible exact World.below_ext _ _ | with_reducible refine Below.ex ?_ _ | with_reducible refine Below.al ?_ _ | with_reducible refine Below.setCell ?_ (by simp) _ | with_reducible refine Below.drew ?_)))).mono ?_
        rintro e w' ⟨rfl, rfl⟩
        refine hK.out _ _ (fun _ => by simp [go_sem, ↓IntWalk.iteOmega, *]) ?_
        clear hK K
        refine wpTr_one rfl rfl (fun K hK => ?_)
        go_simp
        go_at_call 23
        refine (RB3.out _ (by (repeat (first | with_reducible exact Below.rf _ | with_reducible exact World.below_ext _ _ | with_reducible refine Below.ex ?_ _ | with_reducible refine Below.al ?_ _ | with_reducible refine Below.setCell ?_ (by simp) _ | with_reducible refine Below.drew ?_)))).mono ?_
        rintro e w' ⟨rfl, rfl⟩
        refine hK.out _ _ (fun _ => by simp [go_sem, ↓IntWalk.iteOmega, *]) ?_
        clear hK K
        refine wpTr_one rfl rfl (fun K hK => ?_)
        go_simp
        go_at_call 47
        refine (NT.out _).mono ?_
        rintro e w4 ⟨l4, M4, rfl, hT4, hm1, hm2, hl4, hb4⟩
        simp only [World.size_drew] at hl4 hb4 hm1 hm2
        replace hb4 : Below w3.heap.size w3 w4 := ((Below.rf w3).drew).trans hb4
        refine hK.out _ _ (fun _ => (World.cell?_of_block (hb4.block _ hx3)).trans x4) ?_
        clear hK K
        have S4 := (HS3.out.relab hl4).below hb4
        have F4 := (HF3.out.relab (lab' := l4) (fun b hb hx => by rw [hl4 b hb]; exact hx)).below hb4
        have b0 := S4.a.b.is 0 (by omega)
        have b1 := S4.a.b.is 1 (by omega)
        have y0 := S4.a.b.fz 0 (by omega)
        have y1 := S4.a.b.fz 1 (by omega)
        have hd4 := S4.a.b.lt
        have x4' : w4.cell? ⟨w.heap.size, 4, none⟩ = some (.int .i64 (cap)) := S4.bx.is 4 (by omega)
        have HS4 := hid S4
        have HF4 := hid F4
        have HT4 := hid hT4
        clear S4 F4 hT4 hm1 hm2 hl4 hb4 HS3 HF3 x4 hx3 hd3 NT RB3 CL3
        repeat (first | (refine wpTr_qf (v := ?_) rfl rfl ?_ ?_; rotate_left; focus (intro w; go_simp; (try (with_reducible rfl)); done); try simp only [List.getElem_toArray, List.getElem_cons_zero, List.getElem_cons_succ, Act.put, List.setIfInBounds_toArray, List.set_cons_zero, List.set_cons_succ]) | (refine wpTr_qt (v := ?_) rfl rfl ?_ ?_; rotate_left; focus (intro w hSw; (try dsimp only at hSw); go_simp; (try (with_reducible rfl)); done); try simp only [List.getElem_toArray, List.getElem_cons_zero, List.getElem_cons_succ, Act.put, List.setIfInBounds_toArray, List.set_cons_zero, List.set_cons_succ]))
        refine wpTr_one rfl rfl (fun K hK => ?_)
        go_simp
        refine hK.out _ _ (fun _ => by simp [go_sem, ↓IntWalk.iteOmega, *]) ?_
        clear hK K
        repeat (first | (refine wpTr_qf (v := ?_) rfl rfl ?_ ?_; rotate_left; focus (intro w; go_simp; (try (with_reducible rfl)); done); try simp only [List.getElem_toArray, List.getElem_cons_zero, List.getElem_cons_succ, Act.put, List.setIfInBounds_toArray, List.set_cons_zero, List.set_cons_succ]) | (refine wpTr_qt (v := ?_) rfl rfl ?_ ?_; rotate_left; focus (intro w hSw; (try dsimp only at hSw); go_simp; (try (with_reducible rfl)); done); try simp only [List.getElem_toArray, List.getElem_cons_zero, List.getElem_cons_succ, Act.put, List.setIfInBounds_toArray, List.set_cons_zero, List.set_cons_succ]))
        refine wpTr_one rfl rfl (fun K hK => ?_)
        go_simp
        refine hK.out _ _ (fun h => by cases h) ?_
        clear hK K
        refine wpTr_nil ?_
        refine NoPanic.normal ?_
        refine x_nm fun w5 hw5 => ?_
        have S5 : MoS lab w mb ⟨0, A, B, C, cap, E, l⟩ (.slice vo ln vc) w5 l4 (.pointer (some ⟨fb, 0, none⟩)) (.pointer (some ⟨M4.t, 0, none⟩)) (some ⟨F, stN F (TS.new fn nb cap) 0⟩) := by
          rw [hw5]
          exact HS4.out.world hdl HF4.out HT4.out
        have HWO := hid S5
        have HTF : TAt w5 l4 M4 (stN F (TS.new fn nb cap) 0) ∧ FAt w5 l4 fb F := by
          have kb : KeptBut mb w4 w5 := by
            rw [hw5]
            refine KeptBut.set ?_ (Or.inl (by rfl)) _
            refine KeptBut.set ?_ (Or.inl (by rfl)) _
            exact KeptBut.refl _ _
          have k1 := KeptL.of_but (lab := l4) (A := fun x => x = 1) kb HS4.out.a.lb
          exact ⟨HT4.out.keptL k1 (by omega) (by omega) (by omega), HF4.out.keptL k1 (fun x hx => by omega)⟩
        have HT5 := hid HTF.1
        have HF5 := hid HTF.2
        clear HTF
        have HH : Hid (∀ i, (stN F (TS.new fn nb cap) i).held ≤ (stN F (TS.new fn nb cap) i).cap) := fun i => (stN_fx F (TS.new fn nb cap) i).held (by rw [new_held]; exact Nat.zero_le _)
        clear S5 hw5 HS4 HF4 HT4 b0 b1 y0 y1 hd4 x4'
        go_wp2
        go_loopw [6] (fun y wr => ∃ (i : Nat) (l6 : Nat → Nat) (M6 : TM), y = .int .i64 (i) ∧ i ≤ nb ∧ M6.t = M4.t ∧ TAt wr l6 M6 (stN F (TS.new fn nb cap) i) ∧ FAt wr l6 fb F ∧ MoS lab w mb ⟨0, A, B, C, cap, E, l⟩ (.slice vo ln vc) wr l6 (.pointer (some ⟨fb, 0, none⟩)) (.pointer (some ⟨M4.t, 0, none⟩)) (some ⟨F, stN F (TS.new fn nb cap) i⟩)) (fun y _ => nb - (intOf y).toNat)
        case atStart => exact ⟨0, l4, M4, rfl, Nat.zero_le _, rfl, HT5.out, HF5.out, HWO.out⟩
        case round =>
          obtain ⟨i, l6, M6, rfl, hi, hM6, hT6, hF6, hWo⟩ := hrel
          have HW6 := hid hWo
          have e0 : wr.cell? ⟨mb, 0, none⟩ = some (.pointer (some ⟨fb, 0, none⟩)) := hWo.a.b.is 0 (by omega)
          have e1 : wr.cell? ⟨mb, 1, none⟩ = some (.pointer (some ⟨M4.t, 0, none⟩)) := hWo.a.b.is 1 (by omega)
          have hd6 := hWo.a.b.lt
          have RB6 : Hid (Calls Try.prog 23 #[.pointer (some ⟨fb, 0, none⟩)] wr fun e w' => e = .returned (.int .i64 (nb)) ∧ w' = wr) := by
            have := robots_any fb F l6 wr hF6
            rw [HNB.out] at this
            exact this
          have HF6 := hid hF6
          clear HWO HT5 HF5 w5
          by_cases hin : i < nb
          · have di : decide ((i : Int) < (nb : Int)) = true := by simp; omega
            have din : decide (i < nb) = true := by simp; omega
            have PK := hid (parking_any fb F l6 (i : Int) wr hF6)
            have ST : Hid (Calls Try.prog 48 #[.pointer (some ⟨M4.t, 0, none⟩), .int .i64 (i), .int .i64 ((F.park i).1), .int .i64 (0)] wr (tabPost l6 M6 (.int .i64 (((stN F (TS.new fn nb cap) i).stand i (F.park i).1 0).1)) (stN F (TS.new fn nb cap) (i + 1)) wr)) := by
              have := stand_any M6 (stN F (TS.new fn nb cap) i) l6 (i : Int) (F.park i).1 0 wr hT6 (HH.out i)
              rw [hM6] at this
              exact this
            generalize (F.park i).1 = bay at *
            generalize (F.park i).2 = bb at *
            clear hWo hT6 hF6
            go_wp2_with (first | (go_at_call 23; refine RB6.out.mono ?_; rintro e w' ⟨rfl, rfl⟩) | (go_at_call 20; refine PK.out.mono ?_; rintro e w' ⟨rfl, rfl⟩) | (go_at_call 48; refine hold ?_))
            unfold Hid
            refine ST.out.mono ?_
            rintro e w7 ⟨l7, M7, rfl, hT7, hM7, -, hl7, hk7⟩
            have W7 := hid (HW6.out.tab (M := M6) (by rfl) (by rw [hM6]) HF6.out hT7 hM7 hl7 hk7)
            have hk7' := hk7.lab hl7
            have F7 := hid ((HF6.out.relab (lab' := l7) (fun b hb hx => by rw [hl7 b hb]; exact hx)).keptL hk7' (fun x hx => by unfold tabL at hx; omega))
            have T7 := hid hT7
            clear hk7'
            have hM7' := hid (hM7.trans hM6)
            clear hT7 hl7 hk7 HW6 ST PK RB6 e0 e1 hd6 hM7
            go_wp2
            go_roundw
            case rel => exact ⟨i + 1, l7, M7, by go_num, by omega, hM7'.out, T7.out, F7.out, W7.out⟩
            case measure => (simp [intOf] <;> omega)
          · have di : decide ((i : Int) < (nb : Int)) = false := by simp; omega
            have din : decide (i < nb) = false := by simp; omega
            obtain hinb : i = nb := by omega
            rw [hinb] at HW6
            have CL8 : Hid (Calls Try.prog 30 #[.pointer (some ⟨fb, 0, none⟩)] wr fun e w' => e = .returned (.int .i64 (fn)) ∧ w' = wr) := by
              have := cells_any fb F l6 wr hF6
              rw [HFN.out] at this
              exact this
            clear hWo hT6 hF6
            go_wp2_with (first | (go_at_call 23; refine RB6.out.mono ?_; rintro e w' ⟨rfl, hw'⟩; obtain rfl := hw'.symm) | (go_at_call 30; refine CL8.out.mono ?_; rintro e w' ⟨rfl, hw'⟩; obtain rfl := hw'.symm) | (go_at_call 54; refine hold ?_))
            unfold Hid
            refine calls_nm fun wA hwA => ?_
            have BA : Below wr.heap.size wr wA := by rw [hwA]; (repeat (first | with_reducible exact Below.rf _ | with_reducible exact World.below_ext _ _ | with_reducible refine Below.ex ?_ _ | with_reducible refine Below.al ?_ _ | with_reducible refine Below.setCell ?_ (by simp) _ | with_reducible refine Below.drew ?_))
            have hud : ∀ j, j < wr.heap.size → upd l6 wr.heap.size 0 j = l6 j := fun j hj => upd_ne _ _ (by omega)
            have SA := hid ((HW6.out.relab hud).below BA)
            have IA : Hid (Ints wA (upd l6 wr.heap.size 0) (.slice (some ⟨wr.heap.size, 0, none⟩) 1 1) [(F.n : Int)]) := by
              unfold Hid
              rw [hwA, HFN.out]
              exact ints1 _ ⟨by omega, by omega⟩
            obtain ⟨q0, q1, q3⟩ := SA.out.bq
            have k0 : (wA).cell? ⟨w.heap.size + 1, 0, none⟩ = some q0 := q3.is 0 (by omega)
            have k1 : (wA).cell? ⟨w.heap.size + 1, 1, none⟩ = some q1 := q3.is 1 (by omega)
            have kz0 := q3.fz 0 (by omega)
            have kz1 := q3.fz 1 (by omega)
            have kl := q3.lt
            clear q3
            clear BA hud hwA CL8
            refine (ok54_any _ _ _ _).mono ?_
            rintro e wB ⟨rfl, zB, rfl⟩
            go_wp2
            refine bodyPost_ret (v := .agg #[.int .u8 0, .slice (some ⟨wr.heap.size, 0, none⟩) 1 1]) (by simp [results, Try.results13, go_sem, ↓IntWalk.iteOmega, k0, k1]) rfl ?_
            rw [← HPO.out, HAN.out]
            have hmn : mdNew F cap = ⟨F, stN F (TS.new fn nb cap) nb⟩ := by unfold mdNew; rw [HFN.out, HNB.out]
            rw [hmn]
            exact (st_fin SA.out hdl 0 _ _ IA.out).below (World.below_ext _ _)
end Go.Proofs.Qxb6500716a
