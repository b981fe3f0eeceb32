/-
  The desk: its state, plain and in memory.
-/
import Derived.Test.Qxb6500716aQk
import Derived.Test.Qxb6500716aFo
namespace Go.Proofs.Qxb6500716a
open Go.RowKit Go.Maps
set_option linter.unusedSimpArgs false
set_option linter.unusedVariables false
set_option maxRecDepth 20000
set_option maxHeartbeats 4000000

structure Wd where
  F : FS
  T : TS
  S : PS
/-- The desk, plain. -/
structure Dk where
  W : Option Wd
  ask : Bool
  q : Rq
  pl : Pl
/-- Where its parts lie. -/
structure DM where
  fv : Value
  tv : Value
  pv : Value
  gv : Value
  pa : Value
  da : Value
def dcell (m : DM) (D : Dk) : Nat → Value
  | 0 => m.fv
  | 1 => m.tv
  | 2 => m.pv
  | 3 => .bool D.ask
  | 4 => .int .i64 (D.q.r)
  | 5 => .int .i64 (D.q.s)
  | 6 => .int .i64 (D.q.t)
  | 7 => m.gv
  | 8 => .int .i64 (D.q.h)
  | 9 => .int .i64 (D.q.m)
  | 10 => .int .u8 D.pl.c
  | 11 => .int .i64 (D.pl.t)
  | 12 => m.pa
  | 13 => m.da
  | _ => .int .i64 (D.pl.x)
def WdAt (w : World) (lab : Nat → Nat) (m : DM) : Option Wd → Prop
  | none => m.fv = .pointer none ∧ m.tv = .pointer none ∧ m.pv = .pointer none
  | some X => ∃ (fb : Nat) (M : TM) (N : PM) (n : Nat), m.fv = .pointer (some ⟨fb, 0, none⟩) ∧ m.tv = .pointer (some ⟨M.t, 0, none⟩) ∧ m.pv = .pointer (some ⟨N.p, 0, none⟩) ∧ FAt w lab fb X.F ∧ TAt w lab M X.T ∧ PAt w lab N fb M.t X.S n
structure DkAt (w : World) (lab : Nat → Nat) (d : Nat) (m : DM) (D : Dk) : Prop where
  b : Blk w d 15 (dcell m D)
  ld : lab d = 1
  wd : WdAt w lab m D.W
  g : GAt w lab m.gv D.q.gl
  pp : Ints w lab m.pa D.pl.path
  pd : Ints w lab m.da D.pl.done
  nl : D.pl.c ≠ 0 → m.pa = .slice none 0 0 ∧ m.da = .slice none 0 0
/-- What stands of a world. -/
structure Wok (X : Wd) : Prop where
  nr : X.T.nr = X.F.bays.length
  nc : X.T.nc = X.F.n
  held : X.T.held ≤ X.T.cap
  ms : X.S.ms ≤ 4000000
  st : ∀ i, i < 11 → -1000000000000 ≤ X.S.st i ∧ X.S.st i ≤ 1000000000000
def doL (x : Nat) : Prop := 1 ≤ x ∧ x ≤ 9
/-- Only the desk's own blocks are written; of those with label 1 only the desk itself. -/
structure KD (lab : Nat → Nat) (d : Nat) (w w' : World) : Prop where
  k : KeptL lab doL w w'
  o : ∀ j, j < w.heap.size → lab j = 1 → j ≠ d → w'.heap[j]? = w.heap[j]?
section
variable {lab l : Nat → Nat} {d : Nat} {w w1 w2 : World}
theorem KD.size (h : KD lab d w w1) : w.heap.size ≤ w1.heap.size := h.k.size
theorem KD.below (h : KD lab d w w1) (hb : Below w1.heap.size w1 w2) : KD lab d w w2 :=
  ⟨h.k.trans (KeptL.of_below hb), fun j hj h1 h2 => (hb.block j (Nat.lt_of_lt_of_le hj h.size)).trans (h.o j hj h1 h2)⟩
theorem KD.lbl (h : KD lab d w w1) (hk : KeptL l plnL w1 w2) (hg : ∀ k, k < w.heap.size → l k = lab k) : KD lab d w w2 :=
  ⟨h.k.trans' (hk.mono (fun x hx => by unfold plnL at hx; unfold doL; omega)) hg, fun j hj h1 h2 => (hk.block j (Nat.lt_of_lt_of_le hj h.size) (by rw [hg j hj, h1]; unfold plnL; omega)).trans (h.o j hj h1 h2)⟩
theorem KD.but (h : KD lab d w w1) (hk : KeptBut d w1 w2) (ld : l d = 1) (hg : ∀ k, k < w.heap.size → l k = lab k) : KD lab d w w2 :=
  ⟨h.k.trans' ((KeptL.of_but (lab := l) (A := fun x => x = 1) hk ld).mono (fun x hx => by unfold doL; omega)) hg, fun j hj h1 h2 => (hk.block j (Nat.lt_of_lt_of_le hj h.size) h2).trans (h.o j hj h1 h2)⟩
theorem KD.setN (h : KD lab d w w1) {b i : Nat} (hb : w.heap.size ≤ b) (v : Value) : KD lab d w (w1.setCell ⟨b, i, none⟩ v) :=
  ⟨h.k.setN hb v, fun j hj h1 h2 => (((KeptBut.refl b w1).set (Or.inl rfl) v).block j (Nat.lt_of_lt_of_le hj h.size) (by omega)).trans (h.o j hj h1 h2)⟩
end
section
variable {w w' : World} {lab lab' : Nat → Nat} {d : Nat} {m : DM} {D : Dk} {A : Nat → Prop} {W : Option Wd}
theorem WdAt.keptL (h : WdAt w lab m W) (hk : KeptL lab A w w') (hA : ∀ x, A x → x = 1) : WdAt w' lab m W := by
  cases W with
  | none => exact h
  | some X =>
    obtain ⟨fb, M, N, n, h1, h2, h3, h4, h5, h6⟩ := h
    exact ⟨fb, M, N, n, h1, h2, h3, h4.keptL hk (fun x hx => by have := hA x hx; omega), h5.keptL hk (fun hx => by have := hA _ hx; omega) (fun hx => by have := hA _ hx; omega) (fun hx => by have := hA _ hx; omega), h6.keptL hk (fun x hx => by have := hA x hx; omega)⟩
theorem WdAt.relab (h : WdAt w lab m W) (hl : ∀ b, b < w.heap.size → lab' b = lab b) : WdAt w lab' m W := by
  cases W with
  | none => exact h
  | some X =>
    obtain ⟨fb, M, N, n, h1, h2, h3, h4, h5, h6⟩ := h
    exact ⟨fb, M, N, n, h1, h2, h3, h4.relab (fun b hb hx => by rw [hl b hb]; exact hx), h5.relab hl, h6.relab hl⟩
theorem WdAt.below (h : WdAt w lab m W) (hb : Below w.heap.size w w') : WdAt w' lab m W := h.keptL (A := fun _ => False) (KeptL.of_below hb) (fun _ h => h.elim)
theorem DkAt.relab (h : DkAt w lab d m D) (hl : ∀ b, b < w.heap.size → lab' b = lab b) : DkAt w lab' d m D :=
  ⟨h.b, (hl _ h.b.lt).trans h.ld, h.wd.relab hl, h.g.relab (fun b hb hx => by rw [hl b hb]; exact hx), h.pp.relab (fun b hb hx => by rw [hl b hb]; exact hx), h.pd.relab (fun b hb hx => by rw [hl b hb]; exact hx), h.nl⟩
theorem DkAt.below (h : DkAt w lab d m D) (hb : Below w.heap.size w w') : DkAt w' lab d m D :=
  ⟨h.b.below hb, h.ld, h.wd.below hb, h.g.below hb, h.pp.keptL (A := fun _ => False) (KeptL.of_below hb) (fun _ h => h.elim), h.pd.keptL (A := fun _ => False) (KeptL.of_below hb) (fun _ h => h.elim), h.nl⟩
/-- Another block with label 1 is written. -/
theorem DkAt.kept1 {b : Nat} (h : DkAt w lab d m D) (hk : KeptBut b w w') (hl : lab b = 1) (hb : d ≠ b) : DkAt w' lab d m D := by
  have hk1 := KeptL.of_but (lab := lab) (A := fun x => x = 1) hk hl
  exact ⟨h.b.kept hk hb, h.ld, h.wd.keptL hk1 (fun x hx => hx), h.g.keptL hk1 (fun x hx => by omega), h.pp.keptL hk1 (fun x hx => by omega), h.pd.keptL hk1 (fun x hx => by omega), h.nl⟩
end
theorem bq_map {P Q : Value → Value → Prop} (h : ∃ a0 a1, P a0 a1) (f : ∀ a0 a1, P a0 a1 → Q a0 a1) : ∃ a0 a1, Q a0 a1 := by
  obtain ⟨a0, a1, h⟩ := h
  exact ⟨a0, a1, f a0 a1 h⟩
/-- The operation's cells. -/
def ocell (o : Opr) (v : Value) : Nat → Value
  | 0 => .int .i64 (o.K)
  | 1 => .int .i64 (o.A)
  | 2 => .int .i64 (o.B)
  | 3 => .int .i64 (o.C)
  | 4 => .int .i64 (o.D)
  | 5 => .int .i64 (o.E)
  | _ => v
structure OpI (o : Opr) : Prop where
  A : I64 o.A
  B : I64 o.B
  C : I64 o.C
  D : I64 o.D
  E : I64 o.E
  l : o.l.length ≤ 65536
/-- A state of the walk of 'do'. -/
structure DoS (lab : Nat → Nat) (w : World) (d : Nat) (o : Opr) (v : Value) (wr : World) (l : Nat → Nat) (m : DM) (D : Dk) : Prop where
  a : DkAt wr l d m D
  bx : Blk wr w.heap.size 7 (ocell o v)
  lx : l w.heap.size = 0
  bq : ∃ a0 a1, Blk wr (w.heap.size + 1) 2 (fc a0 a1 undef undef)
  lq : l (w.heap.size + 1) = 1
  iv : Ints wr l v o.l
  g : ∀ k, k < w.heap.size → l k = lab k
  k : KD lab d w wr
section
variable {lab : Nat → Nat} {w : World} {d : Nat} {o : Opr} {v : Value} {wr w' : World} {l l' : Nat → Nat} {m m' : DM} {D D' : Dk}
theorem DoS.below (h : DoS lab w d o v wr l m D) (hb : Below wr.heap.size wr w') : DoS lab w d o v w' l m D :=
  ⟨h.a.below hb, h.bx.below hb, h.lx, bq_map h.bq (fun a0 a1 hy => (hy.below hb)), h.lq, h.iv.keptL (A := fun _ => False) (KeptL.of_below hb) (fun _ h => h.elim), h.g, h.k.below hb⟩
theorem DoS.qlt (h : DoS lab w d o v wr l m D) : w.heap.size + 1 < wr.heap.size := by
  obtain ⟨a0, a1, hb⟩ := h.bq
  exact hb.lt
/-- A step that writes blocks with labels 2 to 9. -/
theorem DoS.step (h : DoS lab w d o v wr l m D) (hl : ∀ k, k < wr.heap.size → l' k = l k) (hk : KeptL l plnL wr w') (hW : WdAt w' l' m' D'.W) (hm : m'.gv = m.gv ∧ m'.pa = m.pa ∧ m'.da = m.da ∧ m'.fv = m.fv ∧ m'.tv = m.tv ∧ m'.pv = m.pv) (hD : D'.ask = D.ask ∧ D'.q = D.q ∧ D'.pl = D.pl) : DoS lab w d o v w' l' m' D' := by
  have hk' := hk.lab hl
  have hz : ∀ b, b < wr.heap.size → (l b = 0 ∨ 10 ≤ l b) → (l' b = 0 ∨ 10 ≤ l' b) := fun b hb hx => by rw [hl b hb]; exact hx
  obtain ⟨m1, m2, m3, m4, m5, m6⟩ := hm
  obtain ⟨d1, d2, d3⟩ := hD
  have a := h.a
  refine ⟨⟨?_, (hl _ a.b.lt).trans a.ld, hW, ?_, ?_, ?_, ?_⟩, h.bx.keptL hk (by rw [h.lx]; unfold plnL; omega), (hl _ h.bx.lt).trans h.lx, bq_map h.bq (fun a0 a1 hy => (hy.keptL hk (by rw [h.lq]; unfold plnL; omega))), (hl _ h.qlt).trans h.lq, (h.iv.relab hz).keptL hk' (fun x hx => by unfold plnL at hx; omega), fun k hk2 => (hl k (Nat.lt_of_lt_of_le hk2 h.k.size)).trans (h.g k hk2), h.k.lbl hk h.g⟩
  · refine (a.b.keptL hk (by rw [a.ld]; unfold plnL; omega)).congr (fun i hi => ?_)
    rcases (by omega : i = 0 ∨ i = 1 ∨ i = 2 ∨ i = 3 ∨ i = 4 ∨ i = 5 ∨ i = 6 ∨ i = 7 ∨ i = 8 ∨ i = 9 ∨ i = 10 ∨ i = 11 ∨ i = 12 ∨ i = 13 ∨ i = 14) with rfl | rfl | rfl | rfl | rfl | rfl | rfl | rfl | rfl | rfl | rfl | rfl | rfl | rfl | rfl <;> simp [dcell, m1, m2, m3, m4, m5, m6, d1, d2, d3]
  · rw [m1, d2]; exact (a.g.relab hz).keptL hk' (fun x hx => by unfold plnL at hx; omega)
  · rw [m2, d3]; exact (a.pp.relab hz).keptL hk' (fun x hx => by unfold plnL at hx; omega)
  · rw [m3, d3]; exact (a.pd.relab hz).keptL hk' (fun x hx => by unfold plnL at hx; omega)
  · rw [m2, m3, d3]; exact a.nl
end
/-- What 'do' leaves. -/
def doPost (lab : Nat → Nat) (d : Nat) (X : Dk × Nat × List Int) (w : World) (e : Ending) (w' : World) : Prop :=
  ∃ (lab' : Nat → Nat) (m' : DM) (av : Value), e = .returned (.agg #[.int .u8 X.2.1, av]) ∧ DkAt w' lab' d m' X.1 ∧ Ints w' lab' av X.2.2 ∧ (∀ k, k < w.heap.size → lab' k = lab k) ∧ KD lab d w w'
theorem do_fin {lab : Nat → Nat} {w : World} {d : Nat} {o : Opr} {v : Value} {wr : World} {l : Nat → Nat} {m : DM} {D : Dk} (h : DoS lab w d o v wr l m D) (hd : d < w.heap.size) (c : Nat) (av : Value) (vals : List Int) (hi : Ints wr l av vals) :
    doPost lab d (D, c, vals) w (.returned (.agg #[.int .u8 c, av])) ((wr.setCell ⟨w.heap.size + 1, 0, none⟩ (.int .u8 c)).setCell ⟨w.heap.size + 1, 1, none⟩ av) := by
  have kb : KeptBut (w.heap.size + 1) wr ((wr.setCell ⟨w.heap.size + 1, 0, none⟩ (.int .u8 c)).setCell ⟨w.heap.size + 1, 1, none⟩ av) := by
    refine KeptBut.set ?_ (Or.inl (by rfl)) _
    refine KeptBut.set ?_ (Or.inl (by rfl)) _
    exact KeptBut.refl _ _
  have k1 := KeptL.of_but (lab := l) (A := fun x => x = 1) kb h.lq
  refine ⟨l, m, av, rfl, h.a.kept1 kb h.lq (by omega), hi.keptL k1 (fun x hx => by omega), h.g, ?_⟩
  refine KD.setN ?_ (by omega) _
  refine KD.setN ?_ (by omega) _
  exact h.k
theorem doPost.below {lab : Nat → Nat} {d : Nat} {X : Dk × Nat × List Int} {w : World} {e : Ending} {w1 w2 : World} (h : doPost lab d X w e w1) (hb : Below w1.heap.size w1 w2) : doPost lab d X w e w2 := by
  obtain ⟨l, m, av, rfl, h1, h2, h3, h4⟩ := h
  exact ⟨l, m, av, rfl, h1.below hb, h2.keptL (A := fun _ => False) (KeptL.of_below hb) (fun _ h => h.elim), h3, h4.below hb⟩
def Dk.no (D : Dk) : Dk := { D with ask := false }
theorem do_fin' {lab : Nat → Nat} {w : World} {d : Nat} {o : Opr} {v : Value} {wr : World} {l : Nat → Nat} {m : DM} {D : Dk} (h : DoS lab w d o v wr l m D) (c : Nat) (av : Value) (vals : List Int) (hi : Ints wr l av vals) :
    doPost lab d (D, c, vals) w (.returned (.agg #[.int .u8 c, av])) wr := ⟨l, m, av, rfl, h.a, hi, h.g, h.k⟩
/-- The start: asked := false, the operation boxed, the answer's cells. -/
theorem do_start {lab : Nat → Nat} {w : World} {d : Nat} {o : Opr} {v : Value} {m : DM} {D : Dk} (h : DkAt w lab d m D) (hv : Ints w lab v o.l) (a0 a1 : Value) (ha : a0.oneCell' = true ∧ a1.oneCell' = true) (w1 : World) (hw : w1 = ((w.setCell ⟨d, 3, none⟩ (.bool false)).alloc (Obj.cells #[.int .i64 (o.K), .int .i64 (o.A), .int .i64 (o.B), .int .i64 (o.C), .int .i64 (o.D), .int .i64 (o.E), v] 42)).alloc (Obj.cells #[a0, a1] 44)) :
    ∃ l, DoS lab w d o v w1 l m D.no := by
  have hdl := h.b.lt
  have kb : KeptBut d w (w.setCell ⟨d, 3, none⟩ (.bool false)) := (KeptBut.refl d w).set (Or.inl rfl) _
  have k1 := KeptL.of_but (lab := lab) (A := fun x => x = 1) kb h.ld
  have D2 : DkAt (w.setCell ⟨d, 3, none⟩ (.bool false)) lab d m D.no := by
    refine ⟨?_, h.ld, h.wd.keptL k1 (fun x hx => hx), h.g.keptL k1 (fun x hx => by omega), h.pp.keptL k1 (fun x hx => by omega), h.pd.keptL k1 (fun x hx => by omega), h.nl⟩
    refine (h.b.set 3 _ (by omega)).congr (fun i hi => ?_)
    rcases (by omega : i = 0 ∨ i = 1 ∨ i = 2 ∨ i = 3 ∨ i = 4 ∨ i = 5 ∨ i = 6 ∨ i = 7 ∨ i = 8 ∨ i = 9 ∨ i = 10 ∨ i = 11 ∨ i = 12 ∨ i = 13 ∨ i = 14) with rfl | rfl | rfl | rfl | rfl | rfl | rfl | rfl | rfl | rfl | rfl | rfl | rfl | rfl | rfl <;> rfl
  have I2 := hv.keptL k1 (fun x hx => by omega)
  have hs2 : (w.setCell ⟨d, 3, none⟩ (.bool false)).heap.size = w.heap.size := by simp
  generalize w.setCell ⟨d, 3, none⟩ (.bool false) = w2 at *
  have hud : ∀ j, j < w2.heap.size → (fun b => if b < w.heap.size then lab b else if b = w.heap.size + 1 then 1 else 0) j = lab j := fun j hj => if_pos (by omega)
  have hu0 : (fun b => if b < w.heap.size then lab b else if b = w.heap.size + 1 then 1 else 0) w.heap.size = 0 := by simp
  have hu1 : (fun b => if b < w.heap.size then lab b else if b = w.heap.size + 1 then 1 else 0) (w.heap.size + 1) = 1 := by show (if _ then _ else _) = 1; rw [if_neg (by omega), if_pos rfl]
  obtain ⟨lb1, hlb1⟩ : ∃ y, (fun b => if b < w.heap.size then lab b else if b = w.heap.size + 1 then 1 else 0) = y := ⟨_, rfl⟩
  rw [hlb1] at hud hu0 hu1
  have hz1 : ∀ b, b < w2.heap.size → (lab b = 0 ∨ 10 ≤ lab b) → (lb1 b = 0 ∨ 10 ≤ lb1 b) := fun b hb hx => by rw [hud b hb]; exact hx
  have B2 : Below w2.heap.size w2 w1 := by rw [hw]; (repeat (first | with_reducible exact Below.rf _ | with_reducible exact World.below_ext _ _ | with_reducible refine Below.ex ?_ _ | with_reducible refine Below.al ?_ _ | with_reducible refine Below.setCell ?_ (by simp) _ | with_reducible refine Below.drew ?_))
  have X2 : Blk w1 w.heap.size 7 (ocell o v) := by
    rw [hw, ← hs2]
    refine ⟨by (simp <;> omega), fun i hi => ?_, fun i hi => by simp [go_sem, ↓IntWalk.iteOmega]⟩
    rcases (by omega : i = 0 ∨ i = 1 ∨ i = 2 ∨ i = 3 ∨ i = 4 ∨ i = 5 ∨ i = 6) with rfl | rfl | rfl | rfl | rfl | rfl | rfl <;> simp [go_sem, ↓IntWalk.iteOmega, ocell]
  have Q2 : Blk w1 (w.heap.size + 1) 2 (fc a0 a1 undef undef) := by
    rw [hw, ← hs2]
    refine ⟨by (simp <;> omega), fun i hi => ?_, fun i hi => by simp [go_sem, ↓IntWalk.iteOmega]⟩
    rcases (by omega : i = 0 ∨ i = 1) with rfl | rfl <;> simp [go_sem, ↓IntWalk.iteOmega, fc]
  refine ⟨lb1, ⟨(D2.relab hud).below B2, X2, hu0, ⟨a0, a1, Q2⟩, hu1, (I2.relab hz1).keptL (A := fun _ => False) (KeptL.of_below B2) (fun _ h => h.elim), fun k hk => hud k (by omega), ?_⟩⟩
  exact ⟨(k1.mono (fun x hx => by unfold doL; omega)).trans (KeptL.of_below B2), fun j hj h1 h2 => (B2.block j (by omega)).trans (kb.block j hj h2)⟩
theorem DoS.relab {lab : Nat → Nat} {w : World} {d : Nat} {o : Opr} {v : Value} {wr : World} {l l' : Nat → Nat} {m : DM} {D : Dk} (h : DoS lab w d o v wr l m D) (hl : ∀ b, b < wr.heap.size → l' b = l b) : DoS lab w d o v wr l' m D :=
  ⟨h.a.relab hl, h.bx, (hl _ h.bx.lt).trans h.lx, h.bq, (hl _ h.qlt).trans h.lq, h.iv.relab (fun b hb hx => by rw [hl b hb]; exact hx), fun k hk => (hl k (Nat.lt_of_lt_of_le hk h.k.size)).trans (h.g k hk), h.k⟩
theorem wd_tab {w w2 : World} {l l2 : Nat → Nat} {m : DM} {fb n : Nat} {M M2 : TM} {N : PM} {X : Wd} {T2 : TS} (f1 : m.fv = .pointer (some ⟨fb, 0, none⟩)) (f2 : m.tv = .pointer (some ⟨M.t, 0, none⟩)) (f3 : m.pv = .pointer (some ⟨N.p, 0, none⟩)) (hF : FAt w l fb X.F) (hP : PAt w l N fb M.t X.S n) (hT2 : TAt w2 l2 M2 T2) (hM : M2.t = M.t) (hl : ∀ k, k < w.heap.size → l2 k = l k) (hk : KeptL l tabL w w2) : WdAt w2 l2 m (some { X with T := T2 }) := by
  have hk' := hk.lab hl
  have hz : ∀ b, b < w.heap.size → (l b = 0 ∨ 10 ≤ l b) → (l2 b = 0 ∨ 10 ≤ l2 b) := fun b hb hx => by rw [hl b hb]; exact hx
  refine ⟨fb, M2, N, n, f1, by rw [hM]; exact f2, f3, (hF.relab hz).keptL hk' (fun x hx => by unfold tabL at hx; omega), hT2, ?_⟩
  rw [hM]
  exact (hP.relab hl).keptL hk' (fun x hx => by unfold tabL at hx; omega)
theorem DoS.tab {lab : Nat → Nat} {w : World} {d : Nat} {o : Opr} {v : Value} {wr w2 : World} {l l2 : Nat → Nat} {m : DM} {D : Dk} {X : Wd} {fb n : Nat} {M M2 : TM} {N : PM} {T2 : TS} (h : DoS lab w d o v wr l m D) (hW : D.W = some X) (f1 : m.fv = .pointer (some ⟨fb, 0, none⟩)) (f2 : m.tv = .pointer (some ⟨M.t, 0, none⟩)) (f3 : m.pv = .pointer (some ⟨N.p, 0, none⟩)) (hF : FAt wr l fb X.F) (hP : PAt wr l N fb M.t X.S n) (hT2 : TAt w2 l2 M2 T2) (hM : M2.t = M.t) (hl : ∀ k, k < wr.heap.size → l2 k = l k) (hk : KeptL l tabL wr w2) : DoS lab w d o v w2 l2 m { D with W := some { X with T := T2 } } :=
  h.step hl (hk.mono (fun x hx => by unfold tabL at hx; unfold plnL; omega)) (wd_tab f1 f2 f3 hF hP hT2 hM hl hk) ⟨rfl, rfl, rfl, rfl, rfl, rfl⟩ ⟨rfl, rfl, rfl⟩
end Go.Proofs.Qxb6500716a
