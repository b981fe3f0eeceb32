/-
  modelState: the walk.
-/
import Derived.Test.Qxb6500717aGreatZm0
namespace Go.Proofs.Qxb6500717aGreat
open Go.RowKit
set_option linter.unusedSimpArgs false
set_option linter.unusedVariables false
set_option maxRecDepth 20000
set_option maxHeartbeats 4000000
theorem LAz.shape {w : World} {G : Nat → Prop} {v : Value} {n : Nat} {vs : List Value} (h : LAz w G v n vs) : ∃ ao cap, v = .slice ao n cap := by
  rcases h with ⟨rfl, rfl⟩ | ⟨b, cap, rfl, -⟩
  · exact ⟨none, 0, rfl⟩
  · exact ⟨_, cap, rfl⟩
theorem LAz.blw {w w' : World} {G : Nat → Prop} {v : Value} {n : Nat} {vs : List Value} (h : LAz w G v n vs) (hb : Below w.heap.size w w') : LAz w' G v n vs := h.of hb.size (fun j _ hj => hb.block j hj)
theorem CpV.mono {w : World} {base base' cap n : Nat} {p : Option Addr} {vs : List Value} (h : CpV w base p cap n vs) (hb : base' ≤ base) : CpV w base' p cap n vs := by
  rcases h with h | ⟨b, h1, h2, h3, h4⟩
  · exact Or.inl h
  · exact Or.inr ⟨b, h1, by omega, h3, h4⟩
/-- The two blocks of the call: the result's and the state's. -/
structure MsB (w w3 : World) (m : Nat) (S : MdS) (a b v6 : Value) : Prop where
  sz : w.heap.size + 2 ≤ w3.heap.size
  r0 : w3.cell? ⟨w.heap.size, 0, none⟩ = some (.int .i64 (0))
  r1 : w3.cell? ⟨w.heap.size, 1, none⟩ = some (.int .i64 (0))
  r2 : w3.cell? ⟨w.heap.size, 2, none⟩ = some (.slice none 0 0)
  r3 : w3.cell? ⟨w.heap.size, 3, none⟩ = some (.slice none 0 0)
  x0 : w3.cell? ⟨w.heap.size + 1, 0, none⟩ = some (.int .i64 ((S.tr.length : Int) + S.sp.length))
  x1 : w3.cell? ⟨w.heap.size + 1, 1, none⟩ = some (.int .i64 (S.base))
  x2 : w3.cell? ⟨w.heap.size + 1, 2, none⟩ = some a
  x3 : w3.cell? ⟨w.heap.size + 1, 3, none⟩ = some b
  fr : ∀ i, w3.frozen? ⟨w.heap.size, i, none⟩ = false
  fx : ∀ i, w3.frozen? ⟨w.heap.size + 1, i, none⟩ = false
  m6 : w3.cell? ⟨m, 6, none⟩ = some v6
section
variable {w w3 w4 : World} {m : Nat} {S : MdS} {a b v6 : Value}
theorem MsB.keep (h : MsB w w3 m S a b v6) {k : Nat} (hk : KeptBut k w3 w4) (h2 : w.heap.size + 2 ≤ k) (hm : m < w.heap.size) : MsB w w4 m S a b v6 := by
  have hz := h.sz
  have e1 := hk.block w.heap.size (by omega) (by omega)
  have e2 := hk.block (w.heap.size + 1) (by omega) (by omega)
  have e3 := hk.block m (by omega) (by omega)
  exact ⟨Nat.le_trans hz hk.size, (World.cell?_of_block e1).trans h.r0, (World.cell?_of_block e1).trans h.r1, (World.cell?_of_block e1).trans h.r2, (World.cell?_of_block e1).trans h.r3, (World.cell?_of_block e2).trans h.x0, (World.cell?_of_block e2).trans h.x1, (World.cell?_of_block e2).trans h.x2, (World.cell?_of_block e2).trans h.x3, fun i => (World.frozen?_of_block e1).trans (h.fr i), fun i => (World.frozen?_of_block e2).trans (h.fx i), (World.cell?_of_block e3).trans h.m6⟩
theorem MsB.below (h : MsB w w3 m S a b v6) (hb : Below w3.heap.size w3 w4) (hm : m < w.heap.size) : MsB w w4 m S a b v6 := h.keep (k := w3.heap.size) (KeptBut.of_below hb (Nat.le_refl _)) h.sz hm
theorem MsB.set2 (h : MsB w w3 m S a b v6) (hm : m < w.heap.size) (u : Value) : MsB w (w3.setCell ⟨w.heap.size + 1, 2, none⟩ u) m S u b v6 := by
  have hz := h.sz
  obtain ⟨-, r0, r1, r2, r3, x0, x1, x2, x3, fr, fx, m6⟩ := h
  refine ⟨by simpa using hz, ?_, ?_, ?_, ?_, ?_, ?_, ?_, ?_, fun i => by rw [World.frozen?_setCell]; exact fr i, fun i => by rw [World.frozen?_setCell]; exact fx i, ?_⟩ <;> simp [go_sem, ↓IntWalk.iteOmega, *]
theorem MsB.set3 (h : MsB w w3 m S a b v6) (hm : m < w.heap.size) (u : Value) : MsB w (w3.setCell ⟨w.heap.size + 1, 3, none⟩ u) m S a u v6 := by
  have hz := h.sz
  obtain ⟨-, r0, r1, r2, r3, x0, x1, x2, x3, fr, fx, m6⟩ := h
  refine ⟨by simpa using hz, ?_, ?_, ?_, ?_, ?_, ?_, ?_, ?_, fun i => by rw [World.frozen?_setCell]; exact fr i, fun i => by rw [World.frozen?_setCell]; exact fx i, ?_⟩ <;> simp [go_sem, ↓IntWalk.iteOmega, *]
end
structure MsP (S : MdS) (w : World) (e : Ending) (w' : World) (p1 p2 : Option Addr) (c1 c2 : Nat) (d1 : Array (Nat × Nat × Nat)) (d2 : Array (Nat × Nat × Nat × Nat)) : Prop where
  e : e = .returned (.agg #[.int .i64 ((S.tr.length : Int) + S.sp.length), .int .i64 (S.base), .slice p1 S.tr.length c1, .slice p2 S.sp.length c2])
  t1 : Sort.PermIn 0 S.tr.toArray.size S.tr.toArray d1
  t2 : Sort.SortedIn ltT 0 S.tr.toArray.size d1
  s1 : Sort.PermIn 0 S.sp.toArray.size S.sp.toArray d2
  s2 : Sort.SortedIn ltQ 0 S.sp.toArray.size d2
  l1 : LAt w' w.heap.size (.slice p1 S.tr.length c1) S.tr.length (srow d1.toList)
  l2 : LAt w' w.heap.size (.slice p2 S.sp.length c2) S.sp.length (qrow d2.toList)
  b : Below w.heap.size w w'
theorem modelState_any (m : Nat) (S : MdS) (V : MV) (w : World) (h : MdX w m S V) : Calls Tryz.prog 11 #[.pointer (some ⟨m, 0, none⟩)] w fun e w' => ∃ p1 p2 c1 c2 d1 d2, MsP S w e w' p1 p2 c1 c2 d1 d2 := by
  have c4 := h.rd.c4
  have lm := h.rd.lt
  have hbt := h.rd.bt.1
  have hbs := h.rd.bs.1
  have hbb := h.rd.bn.2.2.2
  obtain ⟨v5, c5, z5⟩ := h.z5
  obtain ⟨v6, c6, z6⟩ := h.z6
  obtain ⟨ao5, cap5, rfl⟩ := z5.shape
  obtain ⟨ao6, cap6, rfl⟩ := z6.shape
  have Z5 := hid z5
  have Z6 := hid z6
  have hwr : IntKind.i64.wrap ((S.tr.length : Int) + S.sp.length) = (S.tr.length : Int) + S.sp.length := by simp [IntKind.wrap, IntKind.bits, IntKind.signed]; omega
  clear h z5 z6
  go_enter Tryz.func11, Tryz.ntmps11
  go_wp2
  refine wp_region_tree 17 (fun w' => w'.cell? ⟨m, 4, none⟩ = some (.int .i64 (S.base)) ∧ w'.cell? ⟨m, 5, none⟩ = some (.slice ao5 S.tr.length cap5) ∧ w'.cell? ⟨m, 6, none⟩ = some (.slice ao6 S.sp.length cap6)) (.q 0 false (.q 1 false (.q 2 false (.q 3 true (.q 4 false (.q 5 false (.q 6 false (.q 7 false (.q 8 true (.q 9 false (.q 10 false (.q 11 false (.q 12 false (.q 13 false (.q 14 true (.q 15 false (.one 16 true (.one 17 false .nil)))))))))))))))))) (by kernel_rfl) (by kernel_rfl) (by kernel_rfl) ?_ ?_
  · simp [go_sem, ↓IntWalk.iteOmega, *]
  repeat (first | (refine wpTr_qf (v := ?_) rfl rfl ?_ ?_; rotate_left; focus (intro w; go_simp; (try (with_reducible rfl)); done); try simp only [List.getElem_toArray, List.getElem_cons_zero, List.getElem_cons_succ, Act.put, List.setIfInBounds_toArray, List.set_cons_zero, List.set_cons_succ]) | (refine wpTr_qt (v := ?_) rfl rfl ?_ ?_; rotate_left; focus (intro w hSw; (try dsimp only at hSw); go_simp; (try (with_reducible rfl)); done); try simp only [List.getElem_toArray, List.getElem_cons_zero, List.getElem_cons_succ, Act.put, List.setIfInBounds_toArray, List.set_cons_zero, List.set_cons_succ]))
  refine wpTr_one rfl rfl (fun K hK => ?_)
  go_simp
  refine hK.out _ _ (fun _ => by simp [go_sem, ↓IntWalk.iteOmega, *]) ?_
  clear hK K
  refine wpTr_one rfl rfl (fun K hK => ?_)
  go_simp
  refine hK.out _ _ (fun h => by cases h) ?_
  clear hK K
  refine wpTr_nil ?_
  refine NoPanic.normal ?_
  go_wp2
  refine wp_region_tree 8 (fun w' => w'.cell? ⟨w.heap.size + 1, 2, none⟩ = some (.slice none 0 0) ∧ w'.cell? ⟨m, 5, none⟩ = some (.slice ao5 S.tr.length cap5)) (.q 0 false (.q 1 true (.q 2 false (.q 3 false (.q 4 false (.q 5 true (.one 6 true (.q 7 false (.one 8 false .nil))))))))) (by kernel_rfl) (by kernel_rfl) (by kernel_rfl) ?_ ?_
  · simp [go_sem, ↓IntWalk.iteOmega, *]
  repeat (first | (refine wpTr_qf (v := ?_) rfl rfl ?_ ?_; rotate_left; focus (intro w; go_simp; (try (with_reducible rfl)); done); try simp only [List.getElem_toArray, List.getElem_cons_zero, List.getElem_cons_succ, Act.put, List.setIfInBounds_toArray, List.set_cons_zero, List.set_cons_succ]) | (refine wpTr_qt (v := ?_) rfl rfl ?_ ?_; rotate_left; focus (intro w hSw; (try dsimp only at hSw); go_simp; (try (with_reducible rfl)); done); try simp only [List.getElem_toArray, List.getElem_cons_zero, List.getElem_cons_succ, Act.put, List.setIfInBounds_toArray, List.set_cons_zero, List.set_cons_succ]))
  refine wpTr_one rfl rfl (fun K hK => ?_)
  refine oper_cp rfl _ _ 27 84 (.agg #[.int .i64 (0), .int .i64 (0), .int .i64 (0)]) 3 24 rfl Tryz.underlying27 (by kernel_rfl) rfl (by decide) V.G (.slice ao5 S.tr.length cap5) S.tr.length (srow S.tr) (by simp [go_sem]) (by simp [go_sem]) (Z5.out.blw (by (repeat (first | with_reducible exact Below.rf _ | with_reducible exact World.below_ext _ _ | with_reducible refine Below.ex ?_ _ | with_reducible refine Below.al ?_ _ | with_reducible refine Below.setCell ?_ (by simp) _ | with_reducible refine Below.drew ?_)))) (by rw [srow_len]; omega) (srow_one _) (by omega) (by omega) ?_
  intro p1 cap1 w3 hcp1 hb3
  have B3 : MsB w w3 m S (.slice none 0 0) (.slice none 0 0) (.slice ao6 S.sp.length cap6) := MsB.below (w3 := ((w.alloc (.cells #[.int .i64 (0), .int .i64 (0), .slice none 0 0, .slice none 0 0] 50)).alloc (.cells #[.int .i64 ((S.tr.length : Int) + S.sp.length), .int .i64 (S.base), .slice none 0 0, .slice none 0 0] 50)).drew.drew) ⟨by simp, by simp [go_sem, ↓IntWalk.iteOmega], by simp [go_sem, ↓IntWalk.iteOmega], by simp [go_sem, ↓IntWalk.iteOmega], by simp [go_sem, ↓IntWalk.iteOmega], by simp [go_sem, ↓IntWalk.iteOmega], by simp [go_sem, ↓IntWalk.iteOmega], by simp [go_sem, ↓IntWalk.iteOmega], by simp [go_sem, ↓IntWalk.iteOmega], fun i => by simp [go_sem, ↓IntWalk.iteOmega], fun i => by simp [go_sem, ↓IntWalk.iteOmega], by simp [go_sem, ↓IntWalk.iteOmega]; exact c6⟩ hb3 lm
  have HB3 := hid ((show Below w.heap.size w ((w.alloc (.cells #[.int .i64 (0), .int .i64 (0), .slice none 0 0, .slice none 0 0] 50)).alloc (.cells #[.int .i64 ((S.tr.length : Int) + S.sp.length), .int .i64 (S.base), .slice none 0 0, .slice none 0 0] 50)).drew.drew from by (repeat (first | with_reducible exact Below.rf _ | with_reducible exact World.below_ext _ _ | with_reducible refine Below.ex ?_ _ | with_reducible refine Below.al ?_ _ | with_reducible refine Below.setCell ?_ (by simp) _ | with_reducible refine Below.drew ?_))).trans (hb3.mono (by simp; omega)))
  have HC1 := hid (hcp1.mono (base' := w.heap.size + 2) (by simp))
  have x5 := HB3.out.cell (p := ⟨m, 5, none⟩) lm
  have HBB := hid B3
  have x2 := B3.x2
  have f2 := B3.fx 2
  have s3 := B3.sz
  rw [c5] at x5
  refine hK.out _ _ (fun _ => ⟨x2, x5⟩) ?_
  clear hK K hcp1 hb3 B3 c5
  repeat (first | (refine wpTr_qf (v := ?_) rfl rfl ?_ ?_; rotate_left; focus (intro w; go_simp; (try (with_reducible rfl)); done); try simp only [List.getElem_toArray, List.getElem_cons_zero, List.getElem_cons_succ, Act.put, List.setIfInBounds_toArray, List.set_cons_zero, List.set_cons_succ]) | (refine wpTr_qt (v := ?_) rfl rfl ?_ ?_; rotate_left; focus (intro w hSw; (try dsimp only at hSw); go_simp; (try (with_reducible rfl)); done); try simp only [List.getElem_toArray, List.getElem_cons_zero, List.getElem_cons_succ, Act.put, List.setIfInBounds_toArray, List.set_cons_zero, List.set_cons_succ]))
  refine wpTr_one rfl rfl (fun K hK => ?_)
  go_simp
  refine hK.out _ _ (fun h => by cases h) ?_
  clear hK K
  refine wpTr_nil ?_
  refine NoPanic.normal ?_
  have B4 := hid (HBB.out.set2 lm (.slice p1 S.tr.length cap1))
  have HB4 := hid (show Below w.heap.size w (w3.setCell ⟨w.heap.size + 1, 2, none⟩ (.slice p1 S.tr.length cap1)) from HB3.out.setCell (by simp) _)
  have HC4 := hid (HC1.out.kept (k := w.heap.size + 1) ((KeptBut.refl _ _).set' 2 (.slice p1 S.tr.length cap1)) (fun b hb => by have := (HC1.out.lt b hb).1; omega))
  obtain ⟨w4, hw4⟩ : ∃ w4, w3.setCell ⟨w.heap.size + 1, 2, none⟩ (.slice p1 S.tr.length cap1) = w4 := ⟨_, rfl⟩
  rw [hw4] at B4 HB4 HC4
  clear HB3 HC1 HBB x2 x5 f2 s3
  go_wp2
  rw [hw4]
  clear hw4
  have x3 := B4.out.x3
  have x6 := B4.out.m6
  refine wp_region_tree 8 (fun w' => w'.cell? ⟨w.heap.size + 1, 3, none⟩ = some (.slice none 0 0) ∧ w'.cell? ⟨m, 6, none⟩ = some (.slice ao6 S.sp.length cap6)) (.q 0 false (.q 1 true (.q 2 false (.q 3 false (.q 4 false (.q 5 true (.one 6 true (.q 7 false (.one 8 false .nil))))))))) (by kernel_rfl) (by kernel_rfl) (by kernel_rfl) ?_ ?_
  · simp [go_sem, ↓IntWalk.iteOmega, *]
  repeat (first | (refine wpTr_qf (v := ?_) rfl rfl ?_ ?_; rotate_left; focus (intro w; go_simp; (try (with_reducible rfl)); done); try simp only [List.getElem_toArray, List.getElem_cons_zero, List.getElem_cons_succ, Act.put, List.setIfInBounds_toArray, List.set_cons_zero, List.set_cons_succ]) | (refine wpTr_qt (v := ?_) rfl rfl ?_ ?_; rotate_left; focus (intro w hSw; (try dsimp only at hSw); go_simp; (try (with_reducible rfl)); done); try simp only [List.getElem_toArray, List.getElem_cons_zero, List.getElem_cons_succ, Act.put, List.setIfInBounds_toArray, List.set_cons_zero, List.set_cons_succ]))
  refine wpTr_one rfl rfl (fun K hK => ?_)
  refine oper_cp rfl _ _ 28 86 (.agg #[.int .i64 (0), .int .i64 (0), .int .i64 (0), .int .i64 (0)]) 4 32 rfl Tryz.underlying28 (by kernel_rfl) rfl (by decide) V.G (.slice ao6 S.sp.length cap6) S.sp.length (qrow S.sp) (by simp [go_sem]) (by simp [go_sem]) (Z6.out.blw (Below.drew HB4.out)) (by rw [qrow_len]; omega) (qrow_one _) (by omega) (by omega) ?_
  intro p2 cap2 w5 hcp2 hb5
  have hb5' : Below w4.heap.size w4 w5 := ((Below.rf w4).drew).trans hb5
  have B5 := hid (B4.out.below hb5' lm)
  have NE12 := hid (show ∀ b, p1 = some ⟨b, 0, none⟩ → p2 = some ⟨b, 0, none⟩ → False from fun b h1 h2 => by
    have a1 := (HC4.out.lt b h1).2
    have a2 := (hcp2.lt b h2).1
    simp at a2
    omega)
  have HC5 := hid (HC4.out.below hb5')
  have s4 := B4.out.sz
  have HD5 := hid (hcp2.mono (base' := w.heap.size + 2) (by simp; omega))
  have HB5 := hid (HB4.out.trans (hb5'.mono HB4.out.size))
  refine hK.out _ _ (fun _ => ⟨B5.out.x3, B5.out.m6⟩) ?_
  have y3 := B5.out.x3
  have f3 := B5.out.fx 3
  have s5 := B5.out.sz
  clear hK K hcp2 hb5 hb5' x3 x6 B4 HB4 HC4
  repeat (first | (refine wpTr_qf (v := ?_) rfl rfl ?_ ?_; rotate_left; focus (intro w; go_simp; (try (with_reducible rfl)); done); try simp only [List.getElem_toArray, List.getElem_cons_zero, List.getElem_cons_succ, Act.put, List.setIfInBounds_toArray, List.set_cons_zero, List.set_cons_succ]) | (refine wpTr_qt (v := ?_) rfl rfl ?_ ?_; rotate_left; focus (intro w hSw; (try dsimp only at hSw); go_simp; (try (with_reducible rfl)); done); try simp only [List.getElem_toArray, List.getElem_cons_zero, List.getElem_cons_succ, Act.put, List.setIfInBounds_toArray, List.set_cons_zero, List.set_cons_succ]))
  refine wpTr_one rfl rfl (fun K hK => ?_)
  go_simp
  refine hK.out _ _ (fun h => by cases h) ?_
  clear hK K
  refine wpTr_nil ?_
  refine NoPanic.normal ?_
  have B6 := hid (B5.out.set3 lm (.slice p2 S.sp.length cap2))
  have HB6 := hid (show Below w.heap.size w (w5.setCell ⟨w.heap.size + 1, 3, none⟩ (.slice p2 S.sp.length cap2)) from HB5.out.setCell (by simp) _)
  have HC6 := hid (HC5.out.kept (k := w.heap.size + 1) ((KeptBut.refl _ _).set' 3 (.slice p2 S.sp.length cap2)) (fun b hb => by have := (HC5.out.lt b hb).1; omega))
  have HD6 := hid (HD5.out.kept (k := w.heap.size + 1) ((KeptBut.refl _ _).set' 3 (.slice p2 S.sp.length cap2)) (fun b hb => by have := (HD5.out.lt b hb).1; omega))
  obtain ⟨w6, hw6⟩ : ∃ w6, w5.setCell ⟨w.heap.size + 1, 3, none⟩ (.slice p2 S.sp.length cap2) = w6 := ⟨_, rfl⟩
  rw [hw6] at B6 HB6 HC6 HD6
  clear B5 HB5 HC5 HD5 y3 f3 s5 s4
  have x2 := B6.out.x2
  have s6 := B6.out.sz
  have x2' := x2
  rw [← hw6] at x2'
  go_wp2_with (go_at_call 61; refine hold ?_)
  unfold Hid
  clear hw6 x2'
  refine (sortT (w.heap.size + 2) (w.heap.size + 1) cap1 p1 S.tr w6 HC6.out (by omega) (by omega) (by omega) (fun b hb => by have := (HC6.out.lt b hb).1; omega) x2).mono ?_
  rintro e w7 ⟨rfl, d1, blk1, hp1, hs1, hb1, hbB1, hk1, hor1, hl1⟩
  have B7 := hid (B6.out.keep hk1 hb1 lm)
  have HD7 := hid (HD6.out.kept hk1 (fun b hb e => by
    subst e
    rcases hor1 with h | h
    · exact NE12.out b h hb
    · have := (HD6.out.lt b hb).2; omega))
  have HB7 := hid (HB6.out.trans (hk1.to_below (B := w.heap.size) (by omega) (by omega)))
  have L1 := hid hl1
  have HP1 := hid hp1
  have HS1 := hid hs1
  have P1 := hid (show ∀ b, p1 = some ⟨b, 0, none⟩ → w.heap.size + 2 ≤ b ∧ b < w7.heap.size from fun b hb => by have := HC6.out.lt b hb; have := hk1.size; omega)
  have x3 := B7.out.x3
  have s7 := B7.out.sz
  clear hp1 hs1 hb1 hbB1 hk1 hor1 hl1 x2 s6 B6 HB6 HC6 HD6
  go_wp2_with (go_at_call 61; refine hold ?_)
  unfold Hid
  refine (sortQ (w.heap.size + 2) (w.heap.size + 1) cap2 p2 S.sp w7 HD7.out (by omega) (by omega) (by omega) (fun b hb => by have := (HD7.out.lt b hb).1; omega) x3).mono ?_
  rintro e w8 ⟨rfl, d2, blk2, hp2, hs2, hb2, hbB2, hk2, hor2, hl2⟩
  have B8 := B7.out.keep hk2 hb2 lm
  have L18 := hid (L1.out.keep hk2 (fun b hb e => by
    subst e
    rcases hor2 with h | h
    · exact NE12.out b hb h
    · have := (P1.out b hb).2; omega))
  have L2 := hid hl2
  have HP2 := hid hp2
  have HS2 := hid hs2
  have HB8 := hid (HB7.out.trans (hk2.to_below (B := w.heap.size) (by omega) (by omega)))
  have P2 := hid (show ∀ b, p2 = some ⟨b, 0, none⟩ → w.heap.size + 2 ≤ b from fun b hb => (HD7.out.lt b hb).1)
  obtain ⟨s8, r0, r1, r2, r3, x0, x1, x2, x3', fr, fx, -⟩ := B8
  have fr0 := fr 0
  have fr1 := fr 1
  have fr2 := fr 2
  have fr3 := fr 3
  clear fr fx hp2 hs2 hb2 hbB2 hk2 hor2 hl2 x3 s7 B7 HB7 HD7 L1
  go_wp2
  refine bodyPost_ret (v := .agg #[.int .i64 ((S.tr.length : Int) + S.sp.length), .int .i64 (S.base), .slice p1 S.tr.length cap1, .slice p2 S.sp.length cap2]) (by simp [results, Tryz.results11, go_sem, ↓IntWalk.iteOmega, *]) rfl ?_
  refine ⟨p1, p2, cap1, cap2, d1, d2, rfl, HP1.out, HS1.out, HP2.out, HS2.out, LAt.low (LAt.keep (k := w.heap.size) L18.out (((((KeptBut.refl _ _).set' _ _).set' _ _).set' _ _).set' _ _) (fun b hb => by have := (P1.out b hb).1; omega)) (Nat.le_add_right _ 2), LAt.low (LAt.keep (k := w.heap.size) L2.out (((((KeptBut.refl _ _).set' _ _).set' _ _).set' _ _).set' _ _) (fun b hb => by have := P2.out b hb; omega)) (Nat.le_add_right _ 2), ?_⟩
  exact HB8.out.trans (KeptBut.to_below (b := w.heap.size) (B := w.heap.size) (((((KeptBut.refl _ _).set' _ _).set' _ _).set' _ _).set' _ _) (Nat.le_refl _) (by omega))
end Go.Proofs.Qxb6500717aGreat
