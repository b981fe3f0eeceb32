/-
  The model's Step: the model in memory, the states of the walk.
-/
import Derived.Test.Qxb6500716aDd
import Derived.Test.Qxb6500716aMa
namespace Go.Proofs.Qxb6500716a
open Go.RowKit Go.Maps
set_option linter.unusedSimpArgs false
set_option linter.unusedVariables false
set_option maxRecDepth 20000
set_option maxHeartbeats 4000000
/-- The model's state. -/
structure MW where
  F : FS
  T : TS
def MkAt (w : World) (lab : Nat → Nat) (fv tv : Value) : Option MW → Prop
  | none => fv = .pointer none ∧ tv = .pointer none
  | some X => ∃ (fb : Nat) (M : TM), fv = .pointer (some ⟨fb, 0, none⟩) ∧ tv = .pointer (some ⟨M.t, 0, none⟩) ∧ FAt w lab fb X.F ∧ TAt w lab M X.T
structure MdAt (w : World) (lab : Nat → Nat) (mb : Nat) (fv tv : Value) (Y : Option MW) : Prop where
  b : Blk w mb 2 (fc fv tv undef undef)
  lb : lab mb = 1
  wd : MkAt w lab fv tv Y
def mdL (x : Nat) : Prop := 1 ≤ x ∧ x ≤ 4
section
variable {w w' : World} {lab lab' : Nat → Nat} {mb : Nat} {fv tv : Value} {Y : Option MW} {A : Nat → Prop}
theorem MkAt.keptL (h : MkAt w lab fv tv Y) (hk : KeptL lab A w w') (hA : ∀ x, A x → x = 1) : MkAt w' lab fv tv Y := by
  cases Y with
  | none => exact h
  | some X =>
    obtain ⟨fb, M, h1, h2, h3, h4⟩ := h
    exact ⟨fb, M, h1, h2, h3.keptL hk (fun x hx => by have := hA x hx; omega), h4.keptL hk (fun hx => by have := hA 2 hx; omega) (fun hx => by have := hA 3 hx; omega) (fun hx => by have := hA 4 hx; omega)⟩
theorem MkAt.below (h : MkAt w lab fv tv Y) (hb : Below w.heap.size w w') : MkAt w' lab fv tv Y := h.keptL (A := fun _ => False) (KeptL.of_below hb) (fun _ h => h.elim)
theorem MkAt.relab (h : MkAt w lab fv tv Y) (hl : ∀ b, b < w.heap.size → lab' b = lab b) : MkAt w lab' fv tv Y := by
  cases Y with
  | none => exact h
  | some X =>
    obtain ⟨fb, M, h1, h2, h3, h4⟩ := h
    exact ⟨fb, M, h1, h2, h3.relab (fun b hb hx => by rw [hl b hb]; exact hx), h4.relab hl⟩
theorem MdAt.below (h : MdAt w lab mb fv tv Y) (hb : Below w.heap.size w w') : MdAt w' lab mb fv tv Y := ⟨h.b.below hb, h.lb, h.wd.below hb⟩
theorem MdAt.relab (h : MdAt w lab mb fv tv Y) (hl : ∀ b, b < w.heap.size → lab' b = lab b) : MdAt w lab' mb fv tv Y := ⟨h.b, (hl _ h.b.lt).trans h.lb, h.wd.relab hl⟩
/-- Another block with label 1 is written. -/
theorem MdAt.kept1 {b : Nat} (h : MdAt w lab mb fv tv Y) (hk : KeptBut b w w') (hl : lab b = 1) (hb : mb ≠ b) : MdAt w' lab mb fv tv Y :=
  ⟨h.b.kept hk hb, h.lb, h.wd.keptL (KeptL.of_but (lab := lab) (A := fun x => x = 1) hk hl) (fun x hx => hx)⟩
end
/-- A state of the walk of 'Step'. -/
structure MoS (lab : Nat → Nat) (w : World) (mb : Nat) (o : Opr) (v : Value) (wr : World) (l : Nat → Nat) (fv tv : Value) (Y : Option MW) : Prop where
  a : MdAt wr l mb fv tv Y
  bx : Blk wr w.heap.size 7 (ocell o v)
  lx : l w.heap.size = 0
  bq : ∃ a0 a1, Blk wr (w.heap.size + 1) 2 (fc a0 a1 undef undef)
  lq : l (w.heap.size + 1) = 1
  iv : Ints wr l v o.l
  g : ∀ k, k < w.heap.size → l k = lab k
  k : KeptL lab mdL w wr
/-- What 'Step' leaves. -/
def stPost (lab : Nat → Nat) (mb : Nat) (X : Option MW × Nat × List Int) (w : World) (e : Ending) (w' : World) : Prop :=
  ∃ (lab' : Nat → Nat) (fv tv av : Value), e = .returned (.agg #[.int .u8 X.2.1, av]) ∧ MdAt w' lab' mb fv tv X.1 ∧ Ints w' lab' av X.2.2 ∧ (∀ k, k < w.heap.size → lab' k = lab k) ∧ KeptL lab mdL w w'
section
variable {lab : Nat → Nat} {w : World} {mb : Nat} {o : Opr} {v : Value} {wr w' : World} {l l' : Nat → Nat} {fv tv : Value} {Y : Option MW}
theorem MoS.below (h : MoS lab w mb o v wr l fv tv Y) (hb : Below wr.heap.size wr w') : MoS lab w mb o v w' l fv tv Y :=
  ⟨h.a.below hb, h.bx.below hb, h.lx, bq_map h.bq (fun a0 a1 hy => hy.below hb), h.lq, h.iv.keptL (A := fun _ => False) (KeptL.of_below hb) (fun _ h => h.elim), h.g, h.k.trans (KeptL.of_below hb)⟩
theorem MoS.qlt (h : MoS lab w mb o v wr l fv tv Y) : w.heap.size + 1 < wr.heap.size := by
  obtain ⟨a0, a1, hb⟩ := h.bq
  exact hb.lt
theorem MoS.relab (h : MoS lab w mb o v wr l fv tv Y) (hl : ∀ b, b < wr.heap.size → l' b = l b) : MoS lab w mb o v wr l' fv tv Y :=
  ⟨h.a.relab hl, h.bx, (hl _ h.bx.lt).trans h.lx, h.bq, (hl _ h.qlt).trans h.lq, h.iv.relab (fun b hb hx => by rw [hl b hb]; exact hx), fun k hk => (hl k (Nat.lt_of_lt_of_le hk h.k.size)).trans (h.g k hk), h.k⟩
/-- The table is changed. -/
theorem MoS.tab {X : MW} {fb : Nat} {M M2 : TM} {T2 : TS} (h : MoS lab w mb o v wr l fv tv (some X)) (f1 : fv = .pointer (some ⟨fb, 0, none⟩)) (f2 : tv = .pointer (some ⟨M.t, 0, none⟩)) (hF : FAt wr l fb X.F) (hT2 : TAt w' l' M2 T2) (hM : M2.t = M.t) (hl : ∀ k, k < wr.heap.size → l' k = l k) (hk : KeptL l tabL wr w') : MoS lab w mb o v w' l' fv tv (some { X with T := T2 }) := by
  have hk' := hk.lab hl
  have hz : ∀ b, b < wr.heap.size → (l b = 0 ∨ 10 ≤ l b) → (l' b = 0 ∨ 10 ≤ l' b) := fun b hb hx => by rw [hl b hb]; exact hx
  refine ⟨⟨h.a.b.keptL hk (by rw [h.a.lb]; unfold tabL; omega), (hl _ h.a.b.lt).trans h.a.lb, fb, M2, f1, by rw [hM]; exact f2, (hF.relab hz).keptL hk' (fun x hx => by unfold tabL at hx; omega), hT2⟩, h.bx.keptL hk (by rw [h.lx]; unfold tabL; omega), (hl _ h.bx.lt).trans h.lx, bq_map h.bq (fun a0 a1 hy => hy.keptL hk (by rw [h.lq]; unfold tabL; omega)), (hl _ h.qlt).trans h.lq, (h.iv.relab hz).keptL hk' (fun x hx => by unfold tabL at hx; omega), fun k hk2 => (hl k (Nat.lt_of_lt_of_le hk2 h.k.size)).trans (h.g k hk2), ?_⟩
  exact h.k.trans' (hk.mono (fun x hx => by unfold tabL at hx; unfold mdL; omega)) h.g
theorem st_fin (h : MoS lab w mb o v wr l fv tv Y) (hd : mb < w.heap.size) (c : Nat) (av : Value) (vals : List Int) (hi : Ints wr l av vals) :
    stPost lab mb (Y, c, vals) w (.returned (.agg #[.int .u8 c, av])) ((wr.setCell ⟨w.heap.size + 1, 0, none⟩ (.int .u8 c)).setCell ⟨w.heap.size + 1, 1, none⟩ av) := by
  have kb : KeptBut (w.heap.size + 1) wr ((wr.setCell ⟨w.heap.size + 1, 0, none⟩ (.int .u8 c)).setCell ⟨w.heap.size + 1, 1, none⟩ av) := by
    refine KeptBut.set ?_ (Or.inl (by rfl)) _
    refine KeptBut.set ?_ (Or.inl (by rfl)) _
    exact KeptBut.refl _ _
  have k1 := KeptL.of_but (lab := l) (A := fun x => x = 1) kb h.lq
  refine ⟨l, fv, tv, av, rfl, h.a.kept1 kb h.lq (by omega), hi.keptL k1 (fun x hx => by omega), h.g, ?_⟩
  refine KeptL.setN ?_ (by omega) _
  refine KeptL.setN ?_ (by omega) _
  exact h.k
theorem st_fin' (h : MoS lab w mb o v wr l fv tv Y) (c : Nat) (av : Value) (vals : List Int) (hi : Ints wr l av vals) :
    stPost lab mb (Y, c, vals) w (.returned (.agg #[.int .u8 c, av])) wr := ⟨l, fv, tv, av, rfl, h.a, hi, h.g, h.k⟩
theorem stPost.below {X : Option MW × Nat × List Int} {e : Ending} {w1 w2 : World} (h : stPost lab mb X w e w1) (hb : Below w1.heap.size w1 w2) : stPost lab mb X w e w2 := by
  obtain ⟨l, fv, tv, av, rfl, h1, h2, h3, h4⟩ := h
  exact ⟨l, fv, tv, av, rfl, h1.below hb, h2.keptL (A := fun _ => False) (KeptL.of_below hb) (fun _ h => h.elim), h3, h4.trans (KeptL.of_below hb)⟩
/-- The start: the operation boxed, the answer's cells. -/
theorem st_start (h : MdAt w lab mb fv tv Y) (hv : Ints w lab v o.l) (a0 a1 : Value) (w1 : World) (hw : w1 = (w.alloc (Obj.cells #[.int .i64 (o.K), .int .i64 (o.A), .int .i64 (o.B), .int .i64 (o.C), .int .i64 (o.D), .int .i64 (o.E), v] 42)).alloc (Obj.cells #[a0, a1] 44)) :
    ∃ l, MoS lab w mb o v w1 l fv tv Y := by
  have hud : ∀ j, j < w.heap.size → (fun b => if b < w.heap.size then lab b else if b = w.heap.size + 1 then 1 else 0) j = lab j := fun j hj => if_pos (by omega)
  have hu0 : (fun b => if b < w.heap.size then lab b else if b = w.heap.size + 1 then 1 else 0) w.heap.size = 0 := by simp
  have hu1 : (fun b => if b < w.heap.size then lab b else if b = w.heap.size + 1 then 1 else 0) (w.heap.size + 1) = 1 := by show (if _ then _ else _) = 1; rw [if_neg (by omega), if_pos rfl]
  obtain ⟨lb1, hlb1⟩ : ∃ y, (fun b => if b < w.heap.size then lab b else if b = w.heap.size + 1 then 1 else 0) = y := ⟨_, rfl⟩
  rw [hlb1] at hud hu0 hu1
  have hz1 : ∀ b, b < w.heap.size → (lab b = 0 ∨ 10 ≤ lab b) → (lb1 b = 0 ∨ 10 ≤ lb1 b) := fun b hb hx => by rw [hud b hb]; exact hx
  have B2 : Below w.heap.size w w1 := by rw [hw]; (repeat (first | with_reducible exact Below.rf _ | with_reducible exact World.below_ext _ _ | with_reducible refine Below.ex ?_ _ | with_reducible refine Below.al ?_ _ | with_reducible refine Below.setCell ?_ (by simp) _ | with_reducible refine Below.drew ?_))
  have X2 : Blk w1 w.heap.size 7 (ocell o v) := by
    rw [hw]
    refine ⟨by (simp <;> omega), fun i hi => ?_, fun i hi => by simp [go_sem, ↓IntWalk.iteOmega]⟩
    rcases (by omega : i = 0 ∨ i = 1 ∨ i = 2 ∨ i = 3 ∨ i = 4 ∨ i = 5 ∨ i = 6) with rfl | rfl | rfl | rfl | rfl | rfl | rfl <;> simp [go_sem, ↓IntWalk.iteOmega, ocell]
  have Q2 : Blk w1 (w.heap.size + 1) 2 (fc a0 a1 undef undef) := by
    rw [hw]
    refine ⟨by (simp <;> omega), fun i hi => ?_, fun i hi => by simp [go_sem, ↓IntWalk.iteOmega]⟩
    rcases (by omega : i = 0 ∨ i = 1) with rfl | rfl <;> simp [go_sem, ↓IntWalk.iteOmega, fc]
  exact ⟨lb1, (h.relab hud).below B2, X2, hu0, ⟨a0, a1, Q2⟩, hu1, (hv.relab hz1).keptL (A := fun _ => False) (KeptL.of_below B2) (fun _ h => h.elim), fun k hk => hud k hk, KeptL.of_below B2⟩
end
end Go.Proofs.Qxb6500716a
