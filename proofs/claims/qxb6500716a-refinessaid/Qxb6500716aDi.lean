/-
  do: World.
-/
import Derived.Test.Qxb6500716aDg
namespace Go.Proofs.Qxb6500716a
open Go.RowKit Go.Maps
set_option linter.unusedSimpArgs false
set_option linter.unusedVariables false
set_option maxRecDepth 20000
set_option maxHeartbeats 4000000
def stN (F : FS) (T : TS) : Nat → TS
  | 0 => T
  | i + 1 => ((stN F T i).stand i (F.park i).1 0).2
theorem stN_fx (F : FS) (T : TS) : ∀ i, TFx T (stN F T i)
  | 0 => TFx.rf T
  | i + 1 => (stN_fx F T i).trans (stand_fx _ _ _ _)
/-- A world as it begins. -/
def Wd.new (F : FS) (cap : Nat) : Wd := ⟨F, stN F (TS.new F.n F.bays.length cap) F.bays.length, PS.new⟩
/-- What the first step does. -/
def wldAns (D : Dk) (o : Opr) : Dk × Nat × List Int :=
  match FS.new o.A o.B o.C o.l with
  | none => (D.no, 2, [])
  | some F => if o.D < (F.bays.length : Int) ∨ 1536 < o.D then (D.no, 2, []) else ({ D.no with W := some (Wd.new F o.D.toNat) }, 0, [(F.n : Int)])
theorem new_held (nc nr cap : Nat) : (TS.new nc nr cap).held = 0 := by
  unfold TS.held TS.new
  simp only
  rw [cntM_empty]
  rfl
theorem Wd.new_ok (F : FS) (cap : Nat) : Wok (Wd.new F cap) := by
  have h := stN_fx F (TS.new F.n F.bays.length cap) F.bays.length
  refine ⟨h.nr, h.nc, h.held (by rw [new_held]; exact Nat.zero_le _), by simp [Wd.new, PS.new], fun i _ => ?_⟩
  simp only [Wd.new, PS.new]
  omega
/-- The state of the walk while the world is laid. -/
structure WoS (lab : Nat → Nat) (w : World) (d : Nat) (o : Opr) (v : Value) (fb : Nat) (F : FS) (wr : World) (l : Nat → Nat) (m : DM) (D : Dk) (M : TM) (T : TS) : Prop where
  b : Blk wr d 15 (dcell m D)
  ld : l d = 1
  gg : GAt wr l m.gv D.q.gl
  pp : Ints wr l m.pa D.pl.path
  pd : Ints wr l m.da D.pl.done
  nl : D.pl.c ≠ 0 → m.pa = .slice none 0 0 ∧ m.da = .slice none 0 0
  bx : Blk wr w.heap.size 7 (ocell o v)
  lx : l w.heap.size = 0
  bq : ∃ a0 a1, Blk wr (w.heap.size + 1) 2 (fc a0 a1 undef undef)
  lq : l (w.heap.size + 1) = 1
  iv : Ints wr l v o.l
  f : FAt wr l fb F
  t : TAt wr l M T
  g : ∀ k, k < w.heap.size → l k = lab k
  k : KD lab d w wr
section
variable {lab : Nat → Nat} {w : World} {d : Nat} {o : Opr} {v : Value} {fb : Nat} {F : FS} {wr w' : World} {l l' : Nat → Nat} {m : DM} {D : Dk} {M M' : TM} {T T' : TS}
theorem WoS.qlt (h : WoS lab w d o v fb F wr l m D M T) : w.heap.size + 1 < wr.heap.size := by
  obtain ⟨a0, a1, hb⟩ := h.bq
  exact hb.lt
theorem WoS.below (h : WoS lab w d o v fb F wr l m D M T) (hb : Below wr.heap.size wr w') : WoS lab w d o v fb F w' l m D M T :=
  ⟨h.b.below hb, h.ld, h.gg.below hb, h.pp.keptL (A := fun _ => False) (KeptL.of_below hb) (fun _ h => h.elim), h.pd.keptL (A := fun _ => False) (KeptL.of_below hb) (fun _ h => h.elim), h.nl, h.bx.below hb, h.lx, bq_map h.bq (fun a0 a1 hy => (hy.below hb)), h.lq, h.iv.keptL (A := fun _ => False) (KeptL.of_below hb) (fun _ h => h.elim), h.f.below hb, h.t.below hb, h.g, h.k.below hb⟩
theorem WoS.relab (h : WoS lab w d o v fb F wr l m D M T) (hl : ∀ b, b < wr.heap.size → l' b = l b) : WoS lab w d o v fb F wr l' m D M T := by
  have hz : ∀ b, b < wr.heap.size → (l b = 0 ∨ 10 ≤ l b) → (l' b = 0 ∨ 10 ≤ l' b) := fun b hb hx => by rw [hl b hb]; exact hx
  exact ⟨h.b, (hl _ h.b.lt).trans h.ld, h.gg.relab hz, h.pp.relab hz, h.pd.relab hz, h.nl, h.bx, (hl _ h.bx.lt).trans h.lx, h.bq, (hl _ h.qlt).trans h.lq, h.iv.relab hz, h.f.relab hz, h.t.relab hl, fun k hk => (hl k (Nat.lt_of_lt_of_le hk h.k.size)).trans (h.g k hk), h.k⟩
theorem WoS.tab (h : WoS lab w d o v fb F wr l m D M T) (hl : ∀ k, k < wr.heap.size → l' k = l k) (hk : KeptL l tabL wr w') (ht : TAt w' l' M' T') : WoS lab w d o v fb F w' l' m D M' T' := by
  have hk' := hk.lab hl
  have hz : ∀ b, b < wr.heap.size → (l b = 0 ∨ 10 ≤ l b) → (l' b = 0 ∨ 10 ≤ l' b) := fun b hb hx => by rw [hl b hb]; exact hx
  exact ⟨h.b.keptL hk (by rw [h.ld]; unfold tabL; omega), (hl _ h.b.lt).trans h.ld, (h.gg.relab hz).keptL hk' (fun x hx => by unfold tabL at hx; omega), (h.pp.relab hz).keptL hk' (fun x hx => by unfold tabL at hx; omega), (h.pd.relab hz).keptL hk' (fun x hx => by unfold tabL at hx; omega), h.nl, h.bx.keptL hk (by rw [h.lx]; unfold tabL; omega), (hl _ h.bx.lt).trans h.lx, bq_map h.bq (fun a0 a1 hy => (hy.keptL hk (by rw [h.lq]; unfold tabL; omega))), (hl _ h.qlt).trans h.lq, (h.iv.relab hz).keptL hk' (fun x hx => by unfold tabL at hx; omega), (h.f.relab hz).keptL hk' (fun x hx => by unfold tabL at hx; omega), ht, fun k hk2 => (hl k (Nat.lt_of_lt_of_le hk2 h.k.size)).trans (h.g k hk2), h.k.lbl (hk.mono (fun x hx => by unfold tabL at hx; unfold plnL; omega)) h.g⟩
end
set_option maxHeartbeats 40000000 in
theorem do_world (d : Nat) (m : DM) (D : Dk) (o : Opr) (v : Value) (lab : Nat → Nat) (w : World) (h : DkAt w lab d m D) (hv : Ints w lab v o.l) (hK : o.K = 0) :
    Calls Try.prog 12 #[.pointer (some ⟨d, 0, none⟩), .agg #[.int .i64 ((o).K), .int .i64 ((o).A), .int .i64 ((o).B), .int .i64 ((o).C), .int .i64 ((o).D), .int .i64 ((o).E), v]] w (doPost lab d (wldAns D o) w) := by
  obtain ⟨ans, hans⟩ : ∃ y, wldAns D o = y := ⟨_, rfl⟩
  rw [hans]
  have HANS := hid hans
  obtain ⟨post, hpo⟩ : ∃ y, doPost lab d ans w = y := ⟨_, rfl⟩
  rw [hpo]
  have HPO := hid hpo
  clear hans hpo
  obtain ⟨vo, vc, hvv, -⟩ := hv.ex
  have HV := hid hv
  have HD := hid h
  have hdl := h.b.lt
  have e3 : w.cell? ⟨d, 3, none⟩ = some (.bool D.ask) := h.b.is 3 (by omega)
  have y3 := h.b.fz 3 (by omega)
  obtain ⟨K, A, B, C, Dd, E, l⟩ := o
  simp only at hK
  subst hK
  try simp only at *
  have NF := hid (fun (lb : Nat → Nat) (w' : World) (hI : Ints w' lb v l) => newF_any A B C lb v l w' hI)
  subst hvv
  try simp only at *
  obtain ⟨ln, hln⟩ : ∃ y, l.length = y := ⟨_, rfl⟩
  rw [hln] at HV NF ⊢
  have HLN := hid hln
  clear h hv hln
  go_enter Try.func12, Try.ntmps12
  go_wp2_with (first | (go_at_call 46; refine hold ?_))
  unfold Hid
  refine calls_nm fun w1 hw1 => ?_
  obtain ⟨l1, hS1⟩ := do_start (o := ⟨0, A, B, C, Dd, E, l⟩) HD.out HV.out (.int .u8 0) (.slice none 0 0) ⟨rfl, rfl⟩ w1 hw1
  clear hw1
  refine (NF.out l1 w1 hS1.iv).mono ?_
  rintro e w2 ⟨hb2, hr2⟩
  cases hFN : FS.new A B C l with
  | none =>
    rw [hFN] at hr2
    simp only at hr2
    subst hr2
    have HAN : Hid (ans = (D.no, 2, [])) := by
      unfold Hid
      rw [← HANS.out]
      unfold wldAns
      simp only
      rw [hFN]
    have S2 := hS1.below hb2
    obtain ⟨q0, q1, q3⟩ := S2.bq
    have k0 : (w2).cell? ⟨w.heap.size + 1, 0, none⟩ = some q0 := q3.is 0 (by omega)
    have k1 : (w2).cell? ⟨w.heap.size + 1, 1, none⟩ = some q1 := q3.is 1 (by omega)
    have kz0 := q3.fz 0 (by omega)
    have kz1 := q3.fz 1 (by omega)
    have kl := q3.lt
    clear q3
    have HS2 := hid S2
    clear S2 hS1 hb2 NF hFN
    go_wp2
    first | with_reducible refine wp_region_ext2 (by kernel_rfl) (by kernel_rfl) ?_ | refine wp_region_ext (by kernel_rfl) (by kernel_rfl) ?_
    repeat (go_big_quiet_step (fail))
    refine wpQuiet_nil ?_
    rintro _ ⟨z, rfl⟩
    go_wp2
    refine bodyPost_ret (v := .agg #[.int .u8 2, .slice none 0 0]) (by simp [results, Try.results12, go_sem, ↓IntWalk.iteOmega, k0, k1]) rfl ?_
    rw [← HPO.out, HAN.out]
    exact (do_fin HS2.out hdl 2 _ [] (Ints.nil _ _)).below (World.below_ext _ _)
  | some F =>
    rw [hFN] at hr2
    simp only at hr2
    obtain ⟨fb, rfl, hfs, hfa⟩ := hr2
    have hud : ∀ j, j < w1.heap.size → (fun b => if b < w1.heap.size then l1 b else 0) j = l1 j := fun j hj => if_pos hj
    have hF2 := hfa (fun b => if b < w1.heap.size then l1 b else 0) (fun j hj => if_neg (by omega))
    have S2 := (hS1.relab hud).below hb2
    obtain ⟨l2, hl2⟩ : ∃ y, (fun b => if b < w1.heap.size then l1 b else 0) = y := ⟨_, rfl⟩
    rw [hl2] at hF2 S2
    have RB := hid (fun (w' : World) (h : Below w2.heap.size w2 w') => robots_any fb F l2 w' (hF2.below h))
    have CL := hid (fun (w' : World) (h : Below w2.heap.size w2 w') => cells_any fb F l2 w' (hF2.below h))
    have x4 : w2.cell? ⟨w.heap.size, 4, none⟩ = some (.int .i64 (Dd)) := S2.bx.is 4 (by omega)
    have hx2 := S2.bx.lt
    have hnb := hF2.ok.nb
    have hnn := hF2.ok.n
    have HS2 := hid S2
    have HF2 := hid hF2
    clear S2 hS1 hb2 hud hfa hl2 hfs NF hF2
    obtain ⟨nb, hnbe⟩ : ∃ y, F.bays.length = y := ⟨_, rfl⟩
    rw [hnbe] at RB hnb
    have HNB := hid hnbe
    clear hnbe
    by_cases g1 : Dd < (nb : Int)
    · have HAN : Hid (ans = (D.no, 2, [])) := by
        unfold Hid
        rw [← HANS.out]
        unfold wldAns
        simp only
        rw [hFN]
        simp only
        rw [if_pos (Or.inl (by rw [HNB.out]; exact g1))]
      have dg : decide (Dd < (nb : Int)) = true := by simp [g1]
      obtain ⟨q0, q1, q3⟩ := HS2.out.bq
      have k0 : (w2).cell? ⟨w.heap.size + 1, 0, none⟩ = some q0 := q3.is 0 (by omega)
      have k1 : (w2).cell? ⟨w.heap.size + 1, 1, none⟩ = some q1 := q3.is 1 (by omega)
      have kz0 := q3.fz 0 (by omega)
      have kz1 := q3.fz 1 (by omega)
      have kl := q3.lt
      clear q3
      clear hFN
      go_wp2
      first | with_reducible refine wp_region_ext2 (by kernel_rfl) (by kernel_rfl) ?_ | refine wp_region_ext (by kernel_rfl) (by kernel_rfl) ?_
      repeat (go_big_quiet_step ((go_at_call 23; exact Calls.ext_of_same (RB.out _ (by (repeat (first | with_reducible exact Below.rf _ | with_reducible exact World.below_ext _ _ | with_reducible refine Below.ex ?_ _ | with_reducible refine Below.al ?_ _ | with_reducible refine Below.setCell ?_ (by simp) _ | with_reducible refine Below.drew ?_)))))))
      refine wpQuiet_nil ?_
      rintro _ ⟨z, rfl⟩
      go_wp2
      refine bodyPost_ret (v := .agg #[.int .u8 2, .slice none 0 0]) (by simp [results, Try.results12, go_sem, ↓IntWalk.iteOmega, k0, k1]) rfl ?_
      rw [← HPO.out, HAN.out]
      exact (do_fin HS2.out hdl 2 _ [] (Ints.nil _ _)).below (World.below_ext _ _)
    · have dg : decide (Dd < (nb : Int)) = false := by simp; omega
      by_cases g2 : 1536 < Dd
      · have HAN : Hid (ans = (D.no, 2, [])) := by
          unfold Hid
          rw [← HANS.out]
          unfold wldAns
          simp only
          rw [hFN]
          simp only
          rw [if_pos (Or.inr g2)]
        have dg2 : decide (1536 < Dd) = true := by simp [g2]
        obtain ⟨q0, q1, q3⟩ := HS2.out.bq
        have k0 : (w2).cell? ⟨w.heap.size + 1, 0, none⟩ = some q0 := q3.is 0 (by omega)
        have k1 : (w2).cell? ⟨w.heap.size + 1, 1, none⟩ = some q1 := q3.is 1 (by omega)
        have kz0 := q3.fz 0 (by omega)
        have kz1 := q3.fz 1 (by omega)
        have kl := q3.lt
        clear q3
        clear hFN
        go_wp2
        first | with_reducible refine wp_region_ext2 (by kernel_rfl) (by kernel_rfl) ?_ | refine wp_region_ext (by kernel_rfl) (by kernel_rfl) ?_
        repeat (go_big_quiet_step ((go_at_call 23; exact Calls.ext_of_same (RB.out _ (by (repeat (first | with_reducible exact Below.rf _ | with_reducible exact World.below_ext _ _ | with_reducible refine Below.ex ?_ _ | with_reducible refine Below.al ?_ _ | with_reducible refine Below.setCell ?_ (by simp) _ | with_reducible refine Below.drew ?_)))))))
        refine wpQuiet_nil ?_
        rintro _ ⟨z, rfl⟩
        go_wp2
        refine bodyPost_ret (v := .agg #[.int .u8 2, .slice none 0 0]) (by simp [results, Try.results12, go_sem, ↓IntWalk.iteOmega, k0, k1]) rfl ?_
        rw [← HPO.out, HAN.out]
        exact (do_fin HS2.out hdl 2 _ [] (Ints.nil _ _)).below (World.below_ext _ _)
      · have dg2 : decide (1536 < Dd) = false := by simp; omega
        obtain ⟨cap, rfl⟩ : ∃ c : Nat, Dd = c := ⟨Dd.toNat, by omega⟩
        have dgn : decide (cap < nb) = false := by simp; omega
        have dg2n : decide (1536 < cap) = false := by simp; omega
        have HAN : Hid (ans = ({ D.no with W := some (Wd.new F cap) }, 0, [(F.n : Int)])) := by
          unfold Hid
          rw [← HANS.out]
          unfold wldAns
          simp only
          rw [hFN]
          simp only
          rw [if_neg (by rw [HNB.out]; omega), Int.toNat_natCast]
        clear hFN
        obtain ⟨fn, hfn⟩ : ∃ y, F.n = y := ⟨_, rfl⟩
        rw [hfn] at CL hnn
        have HFN := hid hfn
        clear hfn
        go_wp2
        first | with_reducible refine wp_region_ext2 (by kernel_rfl) (by kernel_rfl) ?_ | refine wp_region_ext (by kernel_rfl) (by kernel_rfl) ?_
        repeat (go_big_quiet_step ((go_at_call 23; exact Calls.ext_of_same (RB.out _ (by (repeat (first | with_reducible exact Below.rf _ | with_reducible exact World.below_ext _ _ | with_reducible refine Below.ex ?_ _ | with_reducible refine Below.al ?_ _ | with_reducible refine Below.setCell ?_ (by simp) _ | with_reducible refine Below.drew ?_)))))))
        refine wpQuiet_nil ?_
        rintro _ ⟨z, rfl⟩
        have hb3 := World.below_ext w2 z
        have S3 := HS2.out.below hb3
        have F3 := HF2.out.below hb3
        generalize w2.ext z = w3 at *
        have NT := hid (fun (w' : World) => newTable_any fn nb cap l2 w' ⟨hnn.1, by omega⟩ hnb (by omega))
        have RB3 := hid (fun (w' : World) (h : Below w3.heap.size w3 w') => RB.out w' (hb3.trans (h.mono hb3.size)))
        have CL3 := hid (fun (w' : World) (h : Below w3.heap.size w3 w') => CL.out w' (hb3.trans (h.mono hb3.size)))
        clear x4 hx2 HS2 HF2 RB CL hb3
        have x4 : w3.cell? ⟨w.heap.size, 4, none⟩ = some (.int .i64 (cap)) := S3.bx.is 4 (by omega)
        have hx3 := S3.bx.lt
        have hd3 := S3.a.b.lt
        have HS3 := hid S3
        have HF3 := hid F3
        clear S3 F3
        go_wp2
        refine wp_region_tree 15 (fun w' => w'.cell? ⟨w.heap.size, 4, none⟩ = some (.int .i64 (cap))) (.q 0 false (.q 1 false (.q 2 false (.q 3 false (.q 5 false (.q 7 false (.q 8 true (.one 4 true (.one 6 true (.one 9 true (.q 10 false (.q 11 false (.one 12 true (.q 13 false (.q 14 false (.one 15 false .nil)))))))))))))))) (by kernel_rfl) (by kernel_rfl) (by kernel_rfl) ?_ ?_
        · simp [go_sem, ↓IntWalk.iteOmega, *]
        repeat (first | (refine wpTr_qf (v := ?_) rfl rfl ?_ ?_; rotate_left; focus (intro w; go_simp; (try (with_reducible rfl)); done); try simp only [List.getElem_toArray, List.getElem_cons_zero, List.getElem_cons_succ, Act.put, List.setIfInBounds_toArray, List.set_cons_zero, List.set_cons_succ]) | (refine wpTr_qt (v := ?_) rfl rfl ?_ ?_; rotate_left; focus (intro w hSw; (try dsimp only at hSw); go_simp; (try (with_reducible rfl)); done); try simp only [List.getElem_toArray, List.getElem_cons_zero, List.getElem_cons_succ, Act.put, List.setIfInBounds_toArray, List.set_cons_zero, List.set_cons_succ]))
        refine wpTr_one rfl rfl (fun K hK => ?_)
        go_simp
        go_at_call 30
        refine (CL3.out _ (by (repeat (first | with_reducible exact Below.rf _ | with_reducible exact World.below_ext _ _ | with_reducible refine Below.ex ?_ _ | with_reducible refine Below.al ?_ _ | with_reducible refine Below.setCell ?_ (by simp) _ | with_reducible refine Below.drew ?_)))).mono ?_
        rintro e w' ⟨rfl, rfl⟩
        refine hK.out _ _ (fun _ => by simp [go_sem, ↓IntWalk.iteOmega, *]) ?_
        clear hK K
        refine wpTr_one rfl rfl (fun K hK => ?_)
        go_simp
        go_at_call 23
        refine (RB3.out _ (by (repeat (first | with_reducible exact Below.rf _ | with_reducible exact World.below_ext _ _ | with_reducible refine Below.ex ?_ _ | with_reducible refine Below.al ?_ _ | with_reducible refine Below.setCell ?_ (by simp) _ | with_reducible refine Below.drew ?_)))).mono ?_
        rintro e w' ⟨rfl, rfl⟩
        refine hK.out _ _ (fun _ => by simp [go_sem, ↓IntWalk.iteOmega, *]) ?_
        clear hK K
        refine wpTr_one rfl rfl (fun K hK => ?_)
        go_simp
        go_at_call 47
        refine (NT.out _).mono ?_
        rintro e w4 ⟨l4, M4, rfl, hT4, hm1, hm2, hl4, hb4⟩
        simp only [World.size_drew] at hl4 hb4 hm1 hm2
        replace hb4 : Below w3.heap.size w3 w4 := ((Below.rf w3).drew).trans hb4
        refine hK.out _ _ (fun _ => (World.cell?_of_block (hb4.block _ hx3)).trans x4) ?_
        clear hK K
        have S4 := (HS3.out.relab hl4).below hb4
        have F4 := (HF3.out.relab (lab' := l4) (fun b hb hx => by rw [hl4 b hb]; exact hx)).below hb4
        have b0 := S4.a.b.is 0 (by omega)
        have b1 := S4.a.b.is 1 (by omega)
        have y0 := S4.a.b.fz 0 (by omega)
        have y1 := S4.a.b.fz 1 (by omega)
        have hd4 := S4.a.b.lt
        have x4' : w4.cell? ⟨w.heap.size, 4, none⟩ = some (.int .i64 (cap)) := S4.bx.is 4 (by omega)
        have HS4 := hid S4
        have HF4 := hid F4
        have HT4 := hid hT4
        clear S4 F4 hT4 hm1 hm2 hl4 hb4 HS3 HF3 x4 hx3 hd3 NT RB3 CL3
        repeat (first | (refine wpTr_qf (v := ?_) rfl rfl ?_ ?_; rotate_left; focus (intro w; go_simp; (try (with_reducible rfl)); done); try simp only [List.getElem_toArray, List.getElem_cons_zero, List.getElem_cons_succ, Act.put, List.setIfInBounds_toArray, List.set_cons_zero, List.set_cons_succ]) | (refine wpTr_qt (v := ?_) rfl rfl ?_ ?_; rotate_left; focus (intro w hSw; (try dsimp only at hSw); go_simp; (try (with_reducible rfl)); done); try simp only [List.getElem_toArray, List.getElem_cons_zero, List.getElem_cons_succ, Act.put, List.setIfInBounds_toArray, List.set_cons_zero, List.set_cons_succ]))
        refine wpTr_one rfl rfl (fun K hK => ?_)
        go_simp
        refine hK.out _ _ (fun _ => by simp [go_sem, ↓IntWalk.iteOmega, *]) ?_
        clear hK K
        repeat (first | (refine wpTr_qf (v := ?_) rfl rfl ?_ ?_; rotate_left; focus (intro w; go_simp; (try (with_reducible rfl)); done); try simp only [List.getElem_toArray, List.getElem_cons_zero, List.getElem_cons_succ, Act.put, List.setIfInBounds_toArray, List.set_cons_zero, List.set_cons_succ]) | (refine wpTr_qt (v := ?_) rfl rfl ?_ ?_; rotate_left; focus (intro w hSw; (try dsimp only at hSw); go_simp; (try (with_reducible rfl)); done); try simp only [List.getElem_toArray, List.getElem_cons_zero, List.getElem_cons_succ, Act.put, List.setIfInBounds_toArray, List.set_cons_zero, List.set_cons_succ]))
        refine wpTr_one rfl rfl (fun K hK => ?_)
        go_simp
        refine hK.out _ _ (fun h => by cases h) ?_
        clear hK K
        refine wpTr_nil ?_
        refine NoPanic.normal ?_
        refine x_nm fun w5 hw5 => ?_
        have kb : KeptBut d w4 w5 := by
          rw [hw5]
          refine KeptBut.set ?_ (Or.inl (by rfl)) _
          refine KeptBut.set ?_ (Or.inl (by rfl)) _
          exact KeptBut.refl _ _
        have k1 := KeptL.of_but (lab := l4) (A := fun x => x = 1) kb HS4.out.a.ld
        have WO : WoS lab w d ⟨0, A, B, C, cap, E, l⟩ (.slice vo ln vc) fb F w5 l4 { m with fv := .pointer (some ⟨fb, 0, none⟩), tv := .pointer (some ⟨M4.t, 0, none⟩) } D.no M4 (stN F (TS.new fn nb cap) 0) := by
          have a := HS4.out.a
          refine ⟨?_, a.ld, a.g.keptL k1 (fun x hx => by omega), a.pp.keptL k1 (fun x hx => by omega), a.pd.keptL k1 (fun x hx => by omega), a.nl, HS4.out.bx.kept kb (by omega), HS4.out.lx, bq_map HS4.out.bq (fun a0 a1 hy => (hy.kept kb (by omega))), HS4.out.lq, HS4.out.iv.keptL k1 (fun x hx => by omega), HF4.out.keptL k1 (fun x hx => by omega), HT4.out.keptL k1 (by omega) (by omega) (by omega), HS4.out.g, HS4.out.k.but kb HS4.out.a.ld HS4.out.g⟩
          rw [hw5]
          refine ((a.b.set 0 _ (by omega)).set 1 _ (by omega)).congr (fun i hi => ?_)
          rcases (by omega : i = 0 ∨ i = 1 ∨ i = 2 ∨ i = 3 ∨ i = 4 ∨ i = 5 ∨ i = 6 ∨ i = 7 ∨ i = 8 ∨ i = 9 ∨ i = 10 ∨ i = 11 ∨ i = 12 ∨ i = 13 ∨ i = 14) with rfl | rfl | rfl | rfl | rfl | rfl | rfl | rfl | rfl | rfl | rfl | rfl | rfl | rfl | rfl <;> rfl
        have HWO := hid WO
        have HH : Hid (∀ i, (stN F (TS.new fn nb cap) i).held ≤ (stN F (TS.new fn nb cap) i).cap) := fun i => (stN_fx F (TS.new fn nb cap) i).held (by rw [new_held]; exact Nat.zero_le _)
        clear kb k1 WO hw5 HS4 HF4 HT4 b0 b1 y0 y1 hd4 x4'
        go_wp2
        go_loopw [6] (fun y wr => ∃ (i : Nat) (l6 : Nat → Nat) (M6 : TM), y = .int .i64 (i) ∧ i ≤ nb ∧ M6.t = M4.t ∧ WoS lab w d ⟨0, A, B, C, cap, E, l⟩ (.slice vo ln vc) fb F wr l6 { m with fv := .pointer (some ⟨fb, 0, none⟩), tv := .pointer (some ⟨M4.t, 0, none⟩) } D.no M6 (stN F (TS.new fn nb cap) i)) (fun y _ => nb - (intOf y).toNat)
        case atStart => exact ⟨0, l4, M4, rfl, Nat.zero_le _, rfl, HWO.out⟩
        case round =>
          obtain ⟨i, l6, M6, rfl, hi, hM6, hWo⟩ := hrel
          have HW6 := hid hWo
          have e0 : wr.cell? ⟨d, 0, none⟩ = some (.pointer (some ⟨fb, 0, none⟩)) := hWo.b.is 0 (by omega)
          have e1 : wr.cell? ⟨d, 1, none⟩ = some (.pointer (some ⟨M4.t, 0, none⟩)) := hWo.b.is 1 (by omega)
          have hd6 := hWo.b.lt
          have RB6 : Hid (Calls Try.prog 23 #[.pointer (some ⟨fb, 0, none⟩)] wr fun e w' => e = .returned (.int .i64 (nb)) ∧ w' = wr) := by
            have := robots_any fb F l6 wr hWo.f
            rw [HNB.out] at this
            exact this
          clear HWO w5
          by_cases hin : i < nb
          · have di : decide ((i : Int) < (nb : Int)) = true := by simp; omega
            have din : decide (i < nb) = true := by simp; omega
            have PK := hid (parking_any fb F l6 (i : Int) wr hWo.f)
            have ST : Hid (Calls Try.prog 48 #[.pointer (some ⟨M4.t, 0, none⟩), .int .i64 (i), .int .i64 ((F.park i).1), .int .i64 (0)] wr (tabPost l6 M6 (.int .i64 (((stN F (TS.new fn nb cap) i).stand i (F.park i).1 0).1)) (stN F (TS.new fn nb cap) (i + 1)) wr)) := by
              have := stand_any M6 (stN F (TS.new fn nb cap) i) l6 (i : Int) (F.park i).1 0 wr hWo.t (HH.out i)
              rw [hM6] at this
              exact this
            generalize (F.park i).1 = bay at *
            generalize (F.park i).2 = bb at *
            clear hWo
            go_wp2_with (first | (go_at_call 23; refine RB6.out.mono ?_; rintro e w' ⟨rfl, rfl⟩) | (go_at_call 20; refine PK.out.mono ?_; rintro e w' ⟨rfl, rfl⟩) | (go_at_call 48; refine hold ?_))
            unfold Hid
            refine ST.out.mono ?_
            rintro e w7 ⟨l7, M7, rfl, hT7, hM7, -, hl7, hk7⟩
            have W7 := hid (HW6.out.tab hl7 hk7 hT7)
            have hM7' := hid (hM7.trans hM6)
            clear hT7 hl7 hk7 HW6 ST PK RB6 e0 e1 hd6 hM7
            go_wp2
            go_roundw
            case rel => exact ⟨i + 1, l7, M7, by go_num, by omega, hM7'.out, W7.out⟩
            case measure => (simp [intOf] <;> omega)
          · have di : decide ((i : Int) < (nb : Int)) = false := by simp; omega
            have din : decide (i < nb) = false := by simp; omega
            obtain rfl : i = nb := by omega
            have e2 := hWo.b.is 2 (by omega)
            have y2 := hWo.b.fz 2 (by omega)
            have NP := hid (fun (w' : World) => newP_any fb M4.t l6 w')
            clear hWo
            go_wp2_with (first | (go_at_call 23; refine RB6.out.mono ?_; rintro e w' ⟨rfl, hw'⟩; obtain rfl := hw'.symm))
            refine wp_region_tree 12 (fun w' => w'.cell? ⟨d, 0, none⟩ = some (.pointer (some ⟨fb, 0, none⟩)) ∧ w'.cell? ⟨d, 1, none⟩ = some (.pointer (some ⟨M4.t, 0, none⟩))) (.q 0 false (.q 1 false (.q 2 false (.q 3 false (.q 4 true (.q 5 false (.q 6 false (.q 7 false (.q 8 true (.one 9 true (.q 10 false (.q 11 false (.one 12 false .nil))))))))))))) (by kernel_rfl) (by kernel_rfl) (by kernel_rfl) ?_ ?_
            · simp [go_sem, ↓IntWalk.iteOmega, *]
            repeat (first | (refine wpTr_qf (v := ?_) rfl rfl ?_ ?_; rotate_left; focus (intro w; go_simp; (try (with_reducible rfl)); done); try simp only [List.getElem_toArray, List.getElem_cons_zero, List.getElem_cons_succ, Act.put, List.setIfInBounds_toArray, List.set_cons_zero, List.set_cons_succ]) | (refine wpTr_qt (v := ?_) rfl rfl ?_ ?_; rotate_left; focus (intro w hSw; (try dsimp only at hSw); go_simp; (try (with_reducible rfl)); done); try simp only [List.getElem_toArray, List.getElem_cons_zero, List.getElem_cons_succ, Act.put, List.setIfInBounds_toArray, List.set_cons_zero, List.set_cons_succ]))
            refine wpTr_one rfl rfl (fun K hK => ?_)
            go_simp
            go_at_call 37
            refine (NP.out _).mono ?_
            rintro e w7 ⟨l7, N7, rfl, hP7, hn7, hl7, hb7⟩
            simp only [World.size_drew] at hn7 hl7 hb7
            replace hb7 : Below wr.heap.size wr w7 := ((Below.rf wr).drew).trans hb7
            refine hK.out _ _ (fun _ => ⟨(World.cell?_of_block (hb7.block _ hd6)).trans e0, (World.cell?_of_block (hb7.block _ hd6)).trans e1⟩) ?_
            clear hK K
            have W7 := (HW6.out.relab hl7).below hb7
            have e2' := W7.b.is 2 (by omega)
            have y2' := W7.b.fz 2 (by omega)
            have hd7 := W7.b.lt
            have HW7 := hid W7
            have HP7 := hid hP7
            clear W7 hP7 hn7 hl7 hb7 HW6 RB6 e0 e1 hd6 e2 y2 NP
            repeat (first | (refine wpTr_qf (v := ?_) rfl rfl ?_ ?_; rotate_left; focus (intro w; go_simp; (try (with_reducible rfl)); done); try simp only [List.getElem_toArray, List.getElem_cons_zero, List.getElem_cons_succ, Act.put, List.setIfInBounds_toArray, List.set_cons_zero, List.set_cons_succ]) | (refine wpTr_qt (v := ?_) rfl rfl ?_ ?_; rotate_left; focus (intro w hSw; (try dsimp only at hSw); go_simp; (try (with_reducible rfl)); done); try simp only [List.getElem_toArray, List.getElem_cons_zero, List.getElem_cons_succ, Act.put, List.setIfInBounds_toArray, List.set_cons_zero, List.set_cons_succ]))
            refine wpTr_one rfl rfl (fun K hK => ?_)
            go_simp
            refine hK.out _ _ (fun h => by cases h) ?_
            clear hK K
            refine wpTr_nil ?_
            refine NoPanic.normal ?_
            refine x_nm fun w8 hw8 => ?_
            have kb : KeptBut d w7 w8 := by
              rw [hw8]
              refine KeptBut.set ?_ (Or.inl (by rfl)) _
              exact KeptBut.refl _ _
            have S8 : DoS lab w d ⟨0, A, B, C, cap, E, l⟩ (.slice vo ln vc) w8 l7 { m with fv := .pointer (some ⟨fb, 0, none⟩), tv := .pointer (some ⟨M4.t, 0, none⟩), pv := .pointer (some ⟨N7.p, 0, none⟩) } { D.no with W := some (Wd.new F cap) } := by
              have a := HW7.out
              have k1 := KeptL.of_but (lab := l7) (A := fun x => x = 1) kb a.ld
              refine ⟨⟨?_, a.ld, ⟨fb, M6, N7, 0, rfl, by simp only; rw [hM6], rfl, a.f.keptL k1 (fun x hx => by omega), ?_, ?_⟩, a.gg.keptL k1 (fun x hx => by omega), a.pp.keptL k1 (fun x hx => by omega), a.pd.keptL k1 (fun x hx => by omega), a.nl⟩, a.bx.kept kb (by omega), a.lx, bq_map a.bq (fun a0 a1 hy => (hy.kept kb (by omega))), a.lq, a.iv.keptL k1 (fun x hx => by omega), a.g, a.k.but kb a.ld a.g⟩
              · rw [hw8]
                refine (a.b.set 2 _ (by omega)).congr (fun i hi => ?_)
                rcases (by omega : i = 0 ∨ i = 1 ∨ i = 2 ∨ i = 3 ∨ i = 4 ∨ i = 5 ∨ i = 6 ∨ i = 7 ∨ i = 8 ∨ i = 9 ∨ i = 10 ∨ i = 11 ∨ i = 12 ∨ i = 13 ∨ i = 14) with rfl | rfl | rfl | rfl | rfl | rfl | rfl | rfl | rfl | rfl | rfl | rfl | rfl | rfl | rfl <;> rfl
              · have := a.t.keptL k1 (by omega) (by omega) (by omega)
                unfold Wd.new
                simp only
                rw [HFN.out, HNB.out]
                exact this
              · have := HP7.out.keptL k1 (fun x hx => by omega)
                rw [hM6]
                exact this
            have F8 : FAt w8 l7 fb F := HW7.out.f.keptL (KeptL.of_but (lab := l7) (A := fun x => x = 1) kb HW7.out.ld) (fun x hx => by omega)
            have CL8 : Hid (Calls Try.prog 30 #[.pointer (some ⟨fb, 0, none⟩)] w8 fun e w' => e = .returned (.int .i64 (fn)) ∧ w' = w8) := by
              have := cells_any fb F l7 w8 F8
              rw [HFN.out] at this
              exact this
            have HS8 := hid S8
            clear kb hw8 S8 F8 HW7 HP7 e2' y2' hd7
            go_wp2_with (first | (go_at_call 30; refine CL8.out.mono ?_; rintro e w' ⟨rfl, hw'⟩; obtain rfl := hw'.symm) | (go_at_call 49; refine hold ?_))
            unfold Hid
            refine calls_nm fun wA hwA => ?_
            have BA : Below w8.heap.size w8 wA := by rw [hwA]; (repeat (first | with_reducible exact Below.rf _ | with_reducible exact World.below_ext _ _ | with_reducible refine Below.ex ?_ _ | with_reducible refine Below.al ?_ _ | with_reducible refine Below.setCell ?_ (by simp) _ | with_reducible refine Below.drew ?_))
            have hud : ∀ j, j < w8.heap.size → upd l7 w8.heap.size 0 j = l7 j := fun j hj => upd_ne _ _ (by omega)
            have SA := hid ((HS8.out.relab hud).below BA)
            have IA : Hid (Ints wA (upd l7 w8.heap.size 0) (.slice (some ⟨w8.heap.size, 0, none⟩) 1 1) [(F.n : Int)]) := by
              unfold Hid
              rw [hwA, HFN.out]
              exact ints1 _ ⟨by omega, by omega⟩
            obtain ⟨q0, q1, q3⟩ := SA.out.bq
            have k0 : (wA).cell? ⟨w.heap.size + 1, 0, none⟩ = some q0 := q3.is 0 (by omega)
            have k1 : (wA).cell? ⟨w.heap.size + 1, 1, none⟩ = some q1 := q3.is 1 (by omega)
            have kz0 := q3.fz 0 (by omega)
            have kz1 := q3.fz 1 (by omega)
            have kl := q3.lt
            clear q3
            clear BA hud hwA HS8 CL8
            refine (ok49_any _ _ _ _).mono ?_
            rintro e wB ⟨rfl, zB, rfl⟩
            go_wp2
            refine bodyPost_ret (v := .agg #[.int .u8 0, .slice (some ⟨w8.heap.size, 0, none⟩) 1 1]) (by simp [results, Try.results12, go_sem, ↓IntWalk.iteOmega, k0, k1]) rfl ?_
            rw [← HPO.out, HAN.out]
            exact (do_fin SA.out hdl 0 _ _ IA.out).below (World.below_ext _ _)
end Go.Proofs.Qxb6500716a
