/-
  enter: the walk.
-/
import Derived.Test.Qxb6500716aQd
import Derived.Test.Qxb6500716aTp
namespace Go.Proofs.Qxb6500716a
open Go.RowKit Go.Maps
set_option linter.unusedSimpArgs false
set_option linter.unusedVariables false
set_option maxRecDepth 20000
set_option maxHeartbeats 4000000

/-- What 'enter' answers and leaves. -/
def TS.enter (T : TS) (r t : Int) (path : List Int) : Nat × TS :=
  if (T.cap : Int) - (T.held : Int) + T.remov r t < (path.length : Int) then (6, T)
  else if ((T.trunc r t).path r t (path.take (path.length - 1))).1 ≠ 0 then (7, ((T.trunc r t).path r t (path.take (path.length - 1))).2.2)
  else if ((((T.trunc r t).path r t (path.take (path.length - 1))).2.2).stand r (path.getD (path.length - 1) 0) (t + path.length - 1)).1 ≠ 0 then (7, ((((T.trunc r t).path r t (path.take (path.length - 1))).2.2).stand r (path.getD (path.length - 1) 0) (t + path.length - 1)).2)
  else (0, ((((T.trunc r t).path r t (path.take (path.length - 1))).2.2).stand r (path.getD (path.length - 1) 0) (t + path.length - 1)).2)
theorem enter_fx (T : TS) (r t : Int) (path : List Int) : TFx T (T.enter r t path).2 := by
  unfold TS.enter
  split
  · exact TFx.rf _
  · split
    · exact (trunc_fx T r t).trans (path_fx _ _ _ _)
    · split <;> exact ((trunc_fx T r t).trans (path_fx _ _ _ _)).trans (stand_fx _ _ _ _)
def entPost (lab : Nat → Nat) (M : TM) (X : Nat × TS) (w : World) (e : Ending) (w' : World) : Prop :=
  ∃ (lab' : Nat → Nat) (M' : TM), e = .returned (.int .u8 X.1) ∧ TAt w' lab' M' X.2 ∧ M'.t = M.t ∧ (∀ k, k < w.heap.size → lab' k = lab k) ∧ KeptL lab tabL w w'
theorem slice_h1 (b a n len cap : Nat) (h : n ≤ cap) (h0 : 0 < cap) (w : World) : (Instr.sliceAt 32 (.slice (some ⟨b, a, none⟩) len cap) none (some (.int .i64 (n))) none).run Try.prog w = .ok (.slice (some ⟨b, a, none⟩) n cap) w := by
  have he : (Try.prog).elem 32 = 3 := by simp [Program.elem, Try.underlying32]
  have ht' : (Try.prog).underlying 32 = some (.slice ((Try.prog).elem 32)) := by rw [he]; exact Try.underlying32
  rw [run_sliceAt_slice _ _ _ _ _ _ ht', run_slice_h _ _ _ _ _ ht' _ _ (by omega) (by omega)]
  have hsz : (sizeOf ((Try.prog).elem 32)).run Try.prog w = .ok 1 w := by rw [he]; kernel_rfl
  rw [hsz]
  simp only [Result.andThen, sliced, Int.toNat_natCast]
  rw [if_neg (by omega)]
  simp [Addr.add_lit]
theorem Ints.take {w : World} {lab : Nat → Nat} {ao : Option Addr} {n cap : Nat} {l : List Int} (h : Ints w lab (.slice ao n cap) l) (k : Nat) (hk : k ≤ l.length) : Ints w lab (.slice ao k cap) (l.take k) := by
  obtain ⟨ao', cap', h1, h2⟩ := h.ex
  simp only [Value.slice.injEq] at h1
  obtain ⟨rfl, -, rfl⟩ := h1
  have hl : (l.take k).length = k := by simp; omega
  refine ⟨⟨ao, cap, by rw [hl], by omega⟩, by have := h.len; omega, fun c hc => h.i64 c (List.mem_of_mem_take hc), fun j c hj => ?_⟩
  rw [List.getElem?_take] at hj
  split at hj
  · obtain ⟨b, a, n', cap', g1, g2, g3, g4⟩ := h.row j c hj
    simp only [Value.slice.injEq] at g1
    obtain ⟨rfl, -, rfl⟩ := g1
    exact ⟨b, a, k, cap, rfl, g2, g3, g4⟩
  · cases hj
theorem getD_of {α : Type} {l : List α} {i : Nat} (d : α) (h : i < l.length) : l[i]? = some (l.getD i d) := by
  rw [List.getD_eq_getElem?_getD, List.getElem?_eq_getElem h]; rfl
set_option maxHeartbeats 40000000 in
theorem enter_any (M : TM) (T : TS) (N : PM) (S : PS) (n fb : Nat) (lab : Nat → Nat) (r t x : Int) (pv : Value) (bo : Option Addr) (bn bcap : Nat) (path : List Int) (w : World) (hT : TAt w lab M T) (hP : PAt w lab N fb M.t S n) (hh : T.held ≤ T.cap) (hr : T.rOk r = true) (ht : (T.base : Int) ≤ t ∧ t < (T.base : Int) + 256) (hpa : Ints w lab pv path) (hln : 1 ≤ path.length ∧ path.length ≤ 300) :
    Calls Try.prog 67 #[.pointer (some ⟨N.p, 0, none⟩), .int .i64 (r), .agg #[.int .u8 (0), .int .i64 (t), pv, .slice bo bn bcap, .int .i64 (x)]] w (entPost lab M (T.enter r t path) w) := by
  have c1 := hP.c1
  have hpl := hP.bp.lt
  have hbb := hT.bd.base
  have hlp := hP.lp
  have it : I64 t := ⟨by omega, by omega⟩
  have hnr := hT.bd.nr
  have ir : I64 r := by
    unfold TS.rOk at hr
    simp at hr
    exact ⟨by omega, by omega⟩
  have CP := hid (fun (w' : World) (h : Below w.heap.size w w') => capacity_any M T lab w' (hT.below h))
  have HE := hid (fun (w' : World) (h : Below w.heap.size w w') => held_any M T lab w' (hT.below h))
  have RM := hid (fun (w' : World) (h : Below w.heap.size w w') => remov_any M T lab r t w' (hT.below h) it)
  have hcap := hT.bd.cap
  have hheld := hT.bd.held
  have hrem : 0 ≤ T.remov r t ∧ T.remov r t ≤ 2000 := by
    unfold TS.remov
    rw [if_pos hr]
    have := trunc_held T r t
    omega
  obtain ⟨ao, cap, hpv, hcc⟩ := hpa.ex
  have HPA := hid hpa
  have HT := hid hT
  have HP := hid hP
  have HH := hid hh
  have HR := hid hr
  have HIR := hid ir
  have HIT := hid it
  subst hpv
  have HH1 := hid ((trunc_fx T r t).held hh)
  have HH2 := hid (fun l => ((trunc_fx T r t).trans (path_fx (T.trunc r t) r t l)).held hh)
  unfold TS.enter
  obtain ⟨ln, hln2⟩ : ∃ k, path.length = k := ⟨_, rfl⟩
  rw [hln2] at hln hcc ⊢
  have HLN := hid hln2
  generalize T.remov r t = rm at *
  generalize T.held = hd at *
  generalize T.cap = cp at *
  clear hT hP hr ir it hpa hln2 hh
  by_cases hroom : (cp : Int) - (hd : Int) + rm < (ln : Int)
  · rw [if_pos hroom]
    have d1 : decide ((cp : Int) - (hd : Int) + rm < (ln : Int)) = true := by simp [hroom]
    go_enter Try.func67, Try.ntmps67
    go_wp2
    first | with_reducible refine wp_region_ext2 (by kernel_rfl) (by kernel_rfl) ?_ | refine wp_region_ext (by kernel_rfl) (by kernel_rfl) ?_
    repeat (go_big_quiet_step ((first | (go_at_call 79; exact Calls.ext_of_same (CP.out _ (by (repeat (first | with_reducible exact Below.rf _ | with_reducible exact World.below_ext _ _ | with_reducible refine Below.ex ?_ _ | with_reducible refine Below.al ?_ _ | with_reducible refine Below.setCell ?_ (by simp) _ | with_reducible refine Below.drew ?_))))) | (go_at_call 76; exact Calls.ext_of (HE.out _ (by (repeat (first | with_reducible exact Below.rf _ | with_reducible exact World.below_ext _ _ | with_reducible refine Below.ex ?_ _ | with_reducible refine Below.al ?_ _ | with_reducible refine Below.setCell ?_ (by simp) _ | with_reducible refine Below.drew ?_))))) | (go_at_call 91; exact Calls.ext_of (RM.out _ (by (repeat (first | with_reducible exact Below.rf _ | with_reducible exact World.below_ext _ _ | with_reducible refine Below.ex ?_ _ | with_reducible refine Below.al ?_ _ | with_reducible refine Below.setCell ?_ (by simp) _ | with_reducible refine Below.drew ?_))))))))
    refine wpQuiet_nil ?_
    rintro _ ⟨z, rfl⟩
    go_wp2
    go_ret
    exact ⟨lab, M, rfl, HT.out.below (by (repeat (first | with_reducible exact Below.rf _ | with_reducible exact World.below_ext _ _ | with_reducible refine Below.ex ?_ _ | with_reducible refine Below.al ?_ _ | with_reducible refine Below.setCell ?_ (by simp) _ | with_reducible refine Below.drew ?_))), rfl, fun _ _ => rfl, KeptL.of_below (by (repeat (first | with_reducible exact Below.rf _ | with_reducible exact World.below_ext _ _ | with_reducible refine Below.ex ?_ _ | with_reducible refine Below.al ?_ _ | with_reducible refine Below.setCell ?_ (by simp) _ | with_reducible refine Below.drew ?_)))⟩
  · rw [if_neg hroom]
    obtain ⟨k, rfl⟩ : ∃ k, ln = k + 1 := ⟨ln - 1, by omega⟩
    have d1 : decide ((cp : Int) - (hd : Int) + rm < (k : Int) + 1) = false := by simp; omega
    have hp0 : path[0]? = some (path[0]'(by rw [HLN.out]; omega)) := List.getElem?_eq_getElem (by rw [HLN.out]; omega)
    obtain ⟨pb, pa, n', cap', hv, hpbl, -, -⟩ := HPA.out.row 0 _ hp0
    simp only [Value.slice.injEq] at hv
    obtain ⟨rfl, -, -⟩ := hv
    have hud : ∀ j, j < w.heap.size → upd lab w.heap.size 0 j = lab j := fun j hj => upd_ne _ _ (by omega)
    have hux : upd lab w.heap.size 0 w.heap.size = 0 := upd_at _ _ _
    have TR := hid (fun (w' : World) (h : Below w.heap.size w w') => trunc_any M T (upd lab w.heap.size 0) r t w' ((HT.out.relab hud).below h) HR.out t.toNat (by omega) (by omega))
    have P1 := hid (HP.out.relab hud)
    have I1 := hid (HPA.out.relab (lab' := upd lab w.heap.size 0) (fun b hb hx => by rw [hud b hb]; exact hx))
    have HUX := hid hux
    have HUD := hid hud
    simp only [Nat.add_sub_cancel]
    have hlp1 : (t : Int) + ((k + 1 : Nat) : Int) - 1 = t + k := by omega
    rw [hlp1]
    obtain ⟨lb1, hlb1⟩ : ∃ y, upd lab w.heap.size 0 = y := ⟨_, rfl⟩
    rw [hlb1] at TR P1 I1 HUX HUD
    clear hud hux hlb1 hlp1 hp0
    obtain ⟨T1, hT1⟩ : ∃ y, T.trunc r t = y := ⟨_, rfl⟩
    rw [hT1] at TR HH1 HH2 ⊢
    generalize hX : (if (T1.path r t (List.take k path)).1 ≠ 0 then (7, (T1.path r t (List.take k path)).2.2) else if ((T1.path r t (List.take k path)).2.2.stand r (path.getD k 0) (t + (k : Int))).1 ≠ 0 then (7, ((T1.path r t (List.take k path)).2.2.stand r (path.getD k 0) (t + (k : Int))).2) else (0, ((T1.path r t (List.take k path)).2.2.stand r (path.getD k 0) (t + (k : Int))).2) : Nat × TS) = X
    have HX := hid hX
    generalize (T.held : Int) - (T1.held : Int) = df at *
    clear hX hT1
    go_enter Try.func67, Try.ntmps67
    go_wp2
    first | with_reducible refine wp_region_ext2 (by kernel_rfl) (by kernel_rfl) ?_ | refine wp_region_ext (by kernel_rfl) (by kernel_rfl) ?_
    repeat (go_big_quiet_step ((first | (go_at_call 79; exact Calls.ext_of_same (CP.out _ (by (repeat (first | with_reducible exact Below.rf _ | with_reducible exact World.below_ext _ _ | with_reducible refine Below.ex ?_ _ | with_reducible refine Below.al ?_ _ | with_reducible refine Below.setCell ?_ (by simp) _ | with_reducible refine Below.drew ?_))))) | (go_at_call 76; exact Calls.ext_of (HE.out _ (by (repeat (first | with_reducible exact Below.rf _ | with_reducible exact World.below_ext _ _ | with_reducible refine Below.ex ?_ _ | with_reducible refine Below.al ?_ _ | with_reducible refine Below.setCell ?_ (by simp) _ | with_reducible refine Below.drew ?_))))) | (go_at_call 91; exact Calls.ext_of (RM.out _ (by (repeat (first | with_reducible exact Below.rf _ | with_reducible exact World.below_ext _ _ | with_reducible refine Below.ex ?_ _ | with_reducible refine Below.al ?_ _ | with_reducible refine Below.setCell ?_ (by simp) _ | with_reducible refine Below.drew ?_))))))))
    refine wpQuiet_nil ?_
    rintro _ ⟨z, rfl⟩
    go_wp2
    first | with_reducible refine wp_region_tail_ext2 7 (by kernel_rfl) (by kernel_rfl) ?_ | refine wp_region_tail_ext 7 (by kernel_rfl) (by kernel_rfl) ?_
    simp only [List.take_succ_cons, List.take_zero, List.drop_succ_cons, List.drop_zero]
    repeat (go_big_quiet_step (fail))
    refine wpQuiet_nil ?_
    rintro _ ⟨z, rfl⟩
    go_wp2_with (first | (go_at_call 52; refine calls_nm fun w3 hw3 => ?_; refine hold ?_))
    unfold Hid
    have B3 : Below w.heap.size w w3 := by rw [hw3]; (repeat (first | with_reducible exact Below.rf _ | with_reducible exact World.below_ext _ _ | with_reducible refine Below.ex ?_ _ | with_reducible refine Below.al ?_ _ | with_reducible refine Below.setCell ?_ (by simp) _ | with_reducible refine Below.drew ?_))
    have X3 : Blk w3 w.heap.size 5 (c5f (.int .u8 0) (.int .i64 (t)) (.slice (some ⟨pb, pa, none⟩) (k + 1) cap) (.slice bo bn bcap) (.int .i64 (x))) := by
      rw [hw3]
      refine ⟨by (simp <;> omega), fun i hi => ?_, fun i hi => by simp [go_sem, ↓IntWalk.iteOmega]⟩
      rcases (by omega : i = 0 ∨ i = 1 ∨ i = 2 ∨ i = 3 ∨ i = 4) with rfl | rfl | rfl | rfl | rfl <;> simp [go_sem, ↓IntWalk.iteOmega, c5f]
    clear hw3
    refine (TR.out _ B3).mono ?_
    rintro e w4 ⟨l4, M4, rfl, hT4, hM4, -, hl4, hk4⟩
    have hs3 := B3.size
    have X4 := X3.keptL hk4 (by rw [HUX.out]; unfold tabL; omega)
    have hk4' := hk4.lab hl4
    have P4 : PAt w4 l4 N fb M.t S n := ((P1.out.below B3).relab hl4).keptL hk4' (fun x hx => by unfold tabL at hx; omega)
    have I4 : Ints w4 l4 (.slice (some ⟨pb, pa, none⟩) path.length cap) path := ((I1.out.keptL (A := fun _ => False) (KeptL.of_below B3) (fun _ h => h.elim)).relab (lab' := l4) (fun b hb hx => by rw [hl4 b hb]; exact hx)).keptL hk4' (fun x hx => by unfold tabL at hx; omega)
    have hlx : l4 w.heap.size = 0 := (hl4 _ X3.lt).trans HUX.out
    have G4 : ∀ j, j < w.heap.size → l4 j = lab j := fun j hj => (hl4 j (by omega)).trans (HUD.out j hj)
    have K4 : KeptL lab tabL w w4 := (KeptL.of_below B3).trans' hk4 (fun i hi => HUD.out i hi)
    have c1' := P4.c1
    have hpl' := P4.bp.lt
    have x1 : w4.cell? ⟨w.heap.size, 1, none⟩ = some (.int .i64 (t)) := X4.is 1 (by omega)
    have x2 : w4.cell? ⟨w.heap.size, 2, none⟩ = some (.slice (some ⟨pb, pa, none⟩) (k + 1) cap) := X4.is 2 (by omega)
    have hxl := X4.lt
    have hsl := fun w => slice_h1 pb pa k (k + 1) cap (by omega) (by omega) w
    have PA : Hid (∀ w' : World, Below w4.heap.size w4 w' → Calls Try.prog 51 #[.pointer (some ⟨M.t, 0, none⟩), .int .i64 (r), .int .i64 (t), .slice (some ⟨pb, pa, none⟩) k cap] w' (pathPost l4 M4 (T1.path r t (path.take k)) w')) := fun w' h => by
      rw [← hM4]
      exact path_any M4 T1 l4 r t _ _ w' (hT4.below h) HH1.out HIR.out HIT.out ((I4.take k (by rw [HLN.out]; omega)).keptL (A := fun _ => False) (KeptL.of_below h) (fun _ h => h.elim))
    have KK := hid (And.intro X4 (And.intro P4 (And.intro I4 (And.intro hlx (And.intro G4 (And.intro K4 hM4))))))
    clear X3 X4 P4 I4 hlx G4 K4 hM4 hk4 hk4' hl4 hT4 B3 hs3 TR P1 I1 HUX HUD c1 hpl
    obtain ⟨Y, hY⟩ : ∃ y, T1.path r t (path.take k) = y := ⟨_, rfl⟩
    rw [hY] at PA HX
    have HH3 : Hid (Y.2.2.held ≤ Y.2.2.cap) := by rw [← hY]; exact HH2.out _
    clear hY
    go_wp2
    refine wp_region_tree 11 (fun w' => w'.cell? ⟨N.p, 1, none⟩ = some (.pointer (some ⟨M.t, 0, none⟩)) ∧ w'.cell? ⟨w.heap.size, 1, none⟩ = some (.int .i64 (t)) ∧ w'.cell? ⟨w.heap.size, 2, none⟩ = some (.slice (some ⟨pb, pa, none⟩) (k + 1) cap)) (.q 0 false (.q 1 false (.q 2 false (.q 3 true (.q 4 false (.q 5 false (.q 6 true (.q 7 false (.q 9 false (.one 8 true (.q 10 false (.one 11 false (.q 12 false (.q 13 false (.q 14 false (.q 15 false (.q 16 false .nil))))))))))))))))) (by kernel_rfl) (by kernel_rfl) (by kernel_rfl) ?_ ?_
    · simp [go_sem, ↓IntWalk.iteOmega, *]
    repeat (first | (refine wpTr_qf (v := ?_) rfl rfl ?_ ?_; rotate_left; focus (intro w; go_simp; (try (with_reducible rfl)); done); try simp only [List.getElem_toArray, List.getElem_cons_zero, List.getElem_cons_succ, Act.put, List.setIfInBounds_toArray, List.set_cons_zero, List.set_cons_succ]) | (refine wpTr_qt (v := ?_) rfl rfl ?_ ?_; rotate_left; focus (intro w hSw; (try dsimp only at hSw); go_simp; (try (with_reducible rfl)); done); try simp only [List.getElem_toArray, List.getElem_cons_zero, List.getElem_cons_succ, Act.put, List.setIfInBounds_toArray, List.set_cons_zero, List.set_cons_succ]))
    refine wpTr_one rfl rfl (fun K hK => ?_)
    go_simp
    refine hK.out _ _ (fun _ => by simp [go_sem, ↓IntWalk.iteOmega, *]) ?_
    clear hK K
    repeat (first | (refine wpTr_qf (v := ?_) rfl rfl ?_ ?_; rotate_left; focus (intro w; go_simp; (try (with_reducible rfl)); done); try simp only [List.getElem_toArray, List.getElem_cons_zero, List.getElem_cons_succ, Act.put, List.setIfInBounds_toArray, List.set_cons_zero, List.set_cons_succ]) | (refine wpTr_qt (v := ?_) rfl rfl ?_ ?_; rotate_left; focus (intro w hSw; (try dsimp only at hSw); go_simp; (try (with_reducible rfl)); done); try simp only [List.getElem_toArray, List.getElem_cons_zero, List.getElem_cons_succ, Act.put, List.setIfInBounds_toArray, List.set_cons_zero, List.set_cons_succ]))
    refine wpTr_one rfl rfl (fun K hK => ?_)
    go_simp
    go_at_call 51
    refine (PA.out _ (by (repeat (first | with_reducible exact Below.rf _ | with_reducible exact World.below_ext _ _ | with_reducible refine Below.ex ?_ _ | with_reducible refine Below.al ?_ _ | with_reducible refine Below.setCell ?_ (by simp) _ | with_reducible refine Below.drew ?_)))).mono ?_
    rintro e w5 ⟨rfl, hT5, hk5⟩
    refine hK.out _ _ (fun h => by cases h) ?_
    clear hK K
    repeat (first | (refine wpTr_qf (v := ?_) rfl rfl ?_ ?_; rotate_left; focus (intro w; go_simp; (try (with_reducible rfl)); done); try simp only [List.getElem_toArray, List.getElem_cons_zero, List.getElem_cons_succ, Act.put, List.setIfInBounds_toArray, List.set_cons_zero, List.set_cons_succ]) | (refine wpTr_qt (v := ?_) rfl rfl ?_ ?_; rotate_left; focus (intro w hSw; (try dsimp only at hSw); go_simp; (try (with_reducible rfl)); done); try simp only [List.getElem_toArray, List.getElem_cons_zero, List.getElem_cons_succ, Act.put, List.setIfInBounds_toArray, List.set_cons_zero, List.set_cons_succ]))
    refine wpTr_nil ?_
    refine NoPanic.normal ?_
    obtain ⟨X4, P4, I4, hlx, G4, K4, hM4⟩ := KK.out
    replace hk5 : KeptL l4 (fun x => x = 3) w4 w5 := (KeptL.of_below ((Below.rf w4).drew)).trans hk5
    have P5 := P4.keptL hk5 (fun x hx => by omega)
    have X5 := X4.keptL hk5 (by rw [hlx]; omega)
    have I5 := I4.keptL hk5 (fun x hx => by omega)
    have K5 : KeptL lab tabL w w5 := K4.trans' (hk5.mono (fun x hx => by unfold tabL; omega)) G4
    obtain ⟨cd, ix, T2⟩ := Y
    simp only at hT5 HH3 HX ⊢
    by_cases hcd : cd = 0
    · subst hcd
      rw [if_neg (by simp)] at HX
      have hkl : path[k]? = some (path.getD k 0) := getD_of 0 (by rw [HLN.out]; omega)
      obtain ⟨b2, a2, n2, cap2, hv2, hbl2, -, y2⟩ := I5.row k _ hkl
      simp only [Value.slice.injEq, Option.some.injEq, Addr.mk.injEq] at hv2
      obtain ⟨⟨rfl, rfl, -⟩, -, -⟩ := hv2
      have c1' := P5.c1
      have hpl' := P5.bp.lt
      have x0 : w5.cell? ⟨w.heap.size, 0, none⟩ = some (.int .u8 0) := X5.is 0 (by omega)
      have x1 : w5.cell? ⟨w.heap.size, 1, none⟩ = some (.int .i64 (t)) := X5.is 1 (by omega)
      have x2 : w5.cell? ⟨w.heap.size, 2, none⟩ = some (.slice (some ⟨pb, pa, none⟩) (k + 1) cap) := X5.is 2 (by omega)
      have x3 : w5.cell? ⟨w.heap.size, 3, none⟩ = some (.slice bo bn bcap) := X5.is 3 (by omega)
      have x4 : w5.cell? ⟨w.heap.size, 4, none⟩ = some (.int .i64 (x)) := X5.is 4 (by omega)
      have hxl := X5.lt
      have AR : Hid (∀ w' : World, Calls Try.prog 36 #[.agg #[.int .u8 (0), .int .i64 (t), .slice (some ⟨pb, pa, none⟩) (k + 1) cap, .slice bo bn bcap, .int .i64 (x)]] w' fun e w'' => e = .returned (.int .i64 (t + k)) ∧ ∃ z, w'' = w'.ext z) := fun w' => (arrival_any 0 t x (some ⟨pb, pa, none⟩) (k + 1) cap (.slice bo bn bcap) w' ⟨by omega, by omega⟩ (by omega)).mono (by rintro e w'' ⟨rfl, hz⟩; exact ⟨by congr 2; omega, hz⟩)
      have ST : Hid (∀ w' : World, Below w5.heap.size w5 w' → Calls Try.prog 48 #[.pointer (some ⟨M.t, 0, none⟩), .int .i64 (r), .int .i64 (path.getD k 0), .int .i64 (t + k)] w' (tabPost l4 M4 (.int .i64 ((T2.stand r (path.getD k 0) (t + k)).1)) (T2.stand r (path.getD k 0) (t + k)).2 w')) := fun w' h => by
        rw [← hM4]
        exact stand_any M4 T2 l4 r _ _ w' (hT5.below h) HH3.out
      have KK5 := hid (And.intro G4 (And.intro K5 hM4))
      generalize path.getD k 0 = lc at *
      obtain ⟨V, hV⟩ : ∃ y, T2.stand r lc (t + k) = y := ⟨_, rfl⟩
      rw [hV] at ST HX
      clear X4 P4 I4 hlx G4 K4 hM4 P5 X5 I5 K5 hk5 hT5 KK PA hV hkl
      obtain ⟨vc, V2⟩ := V
      simp only at ST HX
      have dcd : ((0 : Int) != 0) = false := rfl
      go_wp2
      first | with_reducible refine wp_region_tail_ext2 12 (by kernel_rfl) (by kernel_rfl) ?_ | refine wp_region_tail_ext 12 (by kernel_rfl) (by kernel_rfl) ?_
      simp only [List.take_succ_cons, List.take_zero, List.drop_succ_cons, List.drop_zero]
      repeat (go_big_quiet_step ((go_at_call 36; exact Calls.ext_of (AR.out _))))
      refine wpQuiet_nil ?_
      rintro _ ⟨z, rfl⟩
      by_cases hvc : vc = 0
      · subst hvc
        rw [if_neg (by simp)] at HX
        go_wp2_with (first | (go_at_call 48; refine (ST.out _ (by (repeat (first | with_reducible exact Below.rf _ | with_reducible exact World.below_ext _ _ | with_reducible refine Below.ex ?_ _ | with_reducible refine Below.al ?_ _ | with_reducible refine Below.setCell ?_ (by simp) _ | with_reducible refine Below.drew ?_)))).mono ?_; rintro e w7 ⟨l7, M7, rfl, hT7, hM7, -, hl7, hk7⟩))
        go_ret
        obtain ⟨G4, K5, hM4⟩ := KK5.out
        have hs5 := K5.size
        rw [← HX.out]
        refine ⟨l7, M7, rfl, hT7, hM7.trans hM4, fun j hj => (hl7 j (by simp; omega)).trans (G4 j hj), ?_⟩
        exact (K5.ex z).trans' hk7 (fun i hi => G4 i hi)
      · have dv : (vc != 0) = true := by simp [hvc]
        rw [if_pos hvc] at HX
        go_wp2_with (first | (go_at_call 48; refine (ST.out _ (by (repeat (first | with_reducible exact Below.rf _ | with_reducible exact World.below_ext _ _ | with_reducible refine Below.ex ?_ _ | with_reducible refine Below.al ?_ _ | with_reducible refine Below.setCell ?_ (by simp) _ | with_reducible refine Below.drew ?_)))).mono ?_; rintro e w7 ⟨l7, M7, rfl, hT7, hM7, -, hl7, hk7⟩))
        go_ret
        obtain ⟨G4, K5, hM4⟩ := KK5.out
        have hs5 := K5.size
        rw [← HX.out]
        refine ⟨l7, M7, rfl, hT7, hM7.trans hM4, fun j hj => (hl7 j (by simp; omega)).trans (G4 j hj), ?_⟩
        exact (K5.ex z).trans' hk7 (fun i hi => G4 i hi)
    · have dcd : (cd != 0) = true := by simp [hcd]
      rw [if_pos hcd] at HX
      have KK5 := hid (And.intro G4 (And.intro K5 (And.intro hM4 hT5)))
      clear X4 P4 I4 hlx G4 K4 hM4 P5 X5 I5 K5 hk5 hT5 KK PA
      go_wp2
      go_ret
      obtain ⟨G4, K5, hM4, hT5⟩ := KK5.out
      rw [← HX.out]
      exact ⟨l4, M4, rfl, hT5, hM4, G4, K5⟩
end Go.Proofs.Qxb6500716a
