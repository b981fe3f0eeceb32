/-
  Refines: a round's two calls, in every order with the cells of the answers.
-/
import Derived.Test.Qxb6500716aRs
namespace Go.Proofs.Qxb6500716a
open Go.RowKit Go.Maps
set_option linter.unusedSimpArgs false
set_option linter.unusedVariables false
set_option maxRecDepth 20000
set_option maxHeartbeats 4000000
structure Q3 (w w' : World) (lab labm : Nat → Nat) (d mb xb i : Nat) (o : Opr) (ov : Value) (m : DM) (D : Dk) (fv tv : Value) (Y : Option MW) (gs : List Nat) : Prop where
  play : Play w w' lab d i m D
  pm : Pm w w' lab labm d mb fv tv Y
  ob : Blk w' xb 7 (ocell o ov)
  lo : lab xb = 0
  gs : ∀ b, b ∈ gs → Blk w' b 2 (fc (.int .u8 0) (.slice none 0 0) undef undef) ∧ (lab b = 1 ∧ b ≠ d) ∧ labm b = 5 ∧ w.heap.size ≤ b
/-- What the model's answer is to the desk's. -/
def MRel (D : Dk) (o : Opr) (Y : Option MW) (wc : Nat) (wv : List Int) : Prop :=
  (¬ isRq D o ∧ Y = (D.step o).1.W.map mw ∧ (wc, wv) = (D.step o).2) ∨ (isRq D o ∧ ∃ X, D.W = some X ∧ Y = some (mw X) ∧ ∃ code arr, slvR X.F X.T (rqOf o) code arr ∧ (wc, wv) = mdAns (decide (o.K = 5)) X.T (rqOf o) code arr)
theorem Ints.below {w w' : World} {lab : Nat → Nat} {v : Value} {l : List Int} (h : Ints w lab v l) (hb : Below w.heap.size w w') : Ints w' lab v l := h.keptL (A := fun _ => False) (KeptL.of_below hb) (fun _ h => h.elim)
theorem Ints.move {w w' : World} {lab lab' : Nat → Nat} {v : Value} {l : List Int} (h : Ints w lab v l) (hl : ∀ b, b < w.heap.size → lab' b = lab b) (hb : Below w.heap.size w w') : Ints w' lab' v l :=
  (h.relab (fun b hb h => by rw [hl b hb]; exact h)).keptL (A := fun _ => False) (KeptL.of_below hb) (fun _ h => h.elim)
section
variable {w w' w2 : World} {lab labm : Nat → Nat} {d mb xb i : Nat} {o : Opr} {ov : Value} {m : DM} {D : Dk} {fv tv : Value} {Y : Option MW} {gs : List Nat}
theorem Q3.below (h : Q3 w w' lab labm d mb xb i o ov m D fv tv Y gs) (hb : Below w'.heap.size w' w2) : ∃ lab2 labm2, (∀ b, b < w'.heap.size → lab2 b = lab b) ∧ (∀ b, b < w'.heap.size → labm2 b = labm b) ∧ (∀ b, w'.heap.size ≤ b → lab2 b = 0) ∧ Q3 w w2 lab2 labm2 d mb xb i o ov m D fv tv Y gs := by
  have hud : ∀ b, b < w'.heap.size → (fun b => if b < w'.heap.size then lab b else 0) b = lab b := fun b hb => if_pos hb
  have hun : ∀ b, w'.heap.size ≤ b → (fun b => if b < w'.heap.size then lab b else 0) b = 0 := fun b hb => if_neg (by omega)
  generalize (fun b => if b < w'.heap.size then lab b else 0) = lab2 at hud hun
  obtain ⟨labm2, h1, h2, h3⟩ := h.pm.below h.play.bl.size hb hud
  exact ⟨lab2, labm2, hud, h1, hun, (h.play.relab hud).below hb, h3, h.ob.below hb, (hud _ h.ob.lt).trans h.lo, fun b hb2 => ⟨(h.gs b hb2).1.below hb, ⟨(hud _ (h.gs b hb2).1.lt).trans (h.gs b hb2).2.1.1, (h.gs b hb2).2.1.2⟩, (h1 _ (h.gs b hb2).1.lt).trans (h.gs b hb2).2.2.1, (h.gs b hb2).2.2.2⟩⟩
theorem Q3.al (h : Q3 w w' lab labm d mb xb i o ov m D fv tv Y gs) (hw : w2 = w'.alloc (.cells #[.int .u8 0, .slice none 0 0] 44)) : ∃ lab2 labm2, (∀ b, b < w'.heap.size → lab2 b = lab b) ∧ (∀ b, b < w'.heap.size → labm2 b = labm b) ∧ Q3 w w2 lab2 labm2 d mb xb i o ov m D fv tv Y (w'.heap.size :: gs) := by
  have hb : Below w'.heap.size w' w2 := by rw [hw]; (repeat (first | with_reducible exact Below.rf _ | with_reducible exact World.below_ext _ _ | with_reducible refine Below.ex ?_ _ | with_reducible refine Below.al ?_ _ | with_reducible refine Below.setCell ?_ (by simp) _ | with_reducible refine Below.drew ?_))
  have hud : ∀ b, b < w'.heap.size → (fun b => if b < w'.heap.size then lab b else 1) b = lab b := fun b hb => if_pos hb
  have hun : ∀ b, w'.heap.size ≤ b → (fun b => if b < w'.heap.size then lab b else 1) b = 1 := fun b hb => if_neg (by omega)
  generalize (fun b => if b < w'.heap.size then lab b else 1) = lab2 at hud hun
  obtain ⟨labm2, h1, h2, h3⟩ := h.pm.below h.play.bl.size hb hud
  have hdl := h.play.dk.b.lt
  refine ⟨lab2, labm2, hud, h1, (h.play.relab hud).below hb, h3, h.ob.below hb, (hud _ h.ob.lt).trans h.lo, fun b hb2 => ?_⟩
  rcases List.mem_cons.1 hb2 with rfl | hb2
  · refine ⟨⟨by rw [hw]; simp, fun j hj => ?_, fun j hj => by rw [hw]; simp [go_sem, ↓IntWalk.iteOmega]⟩, ⟨hun _ (Nat.le_refl _), by omega⟩, h2 _ (Nat.le_refl _) (by rw [hun _ (Nat.le_refl _)]; omega) (by rw [hun _ (Nat.le_refl _)]; omega), h.play.bl.size⟩
    rw [hw]
    rcases (by omega : j = 0 ∨ j = 1) with rfl | rfl <;> simp [go_sem, ↓IntWalk.iteOmega, fc]
  · exact ⟨(h.gs b hb2).1.below hb, ⟨(hud _ (h.gs b hb2).1.lt).trans (h.gs b hb2).2.1.1, (h.gs b hb2).2.1.2⟩, (h1 _ (h.gs b hb2).1.lt).trans (h.gs b hb2).2.2.1, (h.gs b hb2).2.2.2⟩
end
/-- Ahead of the desk's step. -/
def QA (w : World) (d mb xb i : Nat) (o : Opr) (ov : Value) (D : Dk) (gs : List Nat) (w' : World) : Prop := ∃ lab labm m fv tv, Q3 w w' lab labm d mb xb i o ov m D fv tv (D.W.map mw) gs
/-- Behind it. -/
def QB (w : World) (d mb xb i : Nat) (o : Opr) (ov : Value) (D : Dk) (gs : List Nat) (ga : Option Addr) (gn gc : Nat) (w' : World) : Prop := ∃ lab labm m fv tv, Q3 w w' lab labm d mb xb (i + 1) o ov m (D.step o).1 fv tv (D.W.map mw) gs ∧ Ints w' lab (.slice ga gn gc) (D.step o).2.2
/-- Behind the model's step. -/
def QC (w : World) (d mb xb i : Nat) (o : Opr) (ov : Value) (D : Dk) (gs : List Nat) (ga : Option Addr) (gn gc : Nat) (wc : Nat) (wa : Option Addr) (wn wp : Nat) (w' : World) : Prop := ∃ lab labm m fv tv Y wv, Q3 w w' lab labm d mb xb (i + 1) o ov m (D.step o).1 fv tv Y gs ∧ Ints w' lab (.slice ga gn gc) (D.step o).2.2 ∧ Ints w' labm (.slice wa wn wp) wv ∧ MRel D o Y wc wv
section
variable {w w' w2 : World} {d mb xb i : Nat} {o : Opr} {ov : Value} {D : Dk} {gs : List Nat} {ga wa : Option Addr} {gn gc wc wn wp : Nat}
theorem QA.below (h : QA w d mb xb i o ov D gs w') (hb : Below w'.heap.size w' w2) : QA w d mb xb i o ov D gs w2 := by
  obtain ⟨lab, labm, m, fv, tv, h⟩ := h
  obtain ⟨lab2, labm2, -, -, -, h4⟩ := h.below hb
  exact ⟨lab2, labm2, m, fv, tv, h4⟩
theorem QA.al (h : QA w d mb xb i o ov D gs w') (hw : w2 = w'.alloc (.cells #[.int .u8 0, .slice none 0 0] 44)) : QA w d mb xb i o ov D (w'.heap.size :: gs) w2 := by
  obtain ⟨lab, labm, m, fv, tv, h⟩ := h
  obtain ⟨lab2, labm2, -, -, h4⟩ := h.al hw
  exact ⟨lab2, labm2, m, fv, tv, h4⟩
theorem QB.below (h : QB w d mb xb i o ov D gs ga gn gc w') (hb : Below w'.heap.size w' w2) : QB w d mb xb i o ov D gs ga gn gc w2 := by
  obtain ⟨lab, labm, m, fv, tv, h, hI⟩ := h
  obtain ⟨lab2, labm2, h1, -, -, h4⟩ := h.below hb
  exact ⟨lab2, labm2, m, fv, tv, h4, hI.move h1 hb⟩
theorem QB.al (h : QB w d mb xb i o ov D gs ga gn gc w') (hw : w2 = w'.alloc (.cells #[.int .u8 0, .slice none 0 0] 44)) : QB w d mb xb i o ov D (w'.heap.size :: gs) ga gn gc w2 := by
  have hb : Below w'.heap.size w' w2 := by rw [hw]; (repeat (first | with_reducible exact Below.rf _ | with_reducible exact World.below_ext _ _ | with_reducible refine Below.ex ?_ _ | with_reducible refine Below.al ?_ _ | with_reducible refine Below.setCell ?_ (by simp) _ | with_reducible refine Below.drew ?_))
  obtain ⟨lab, labm, m, fv, tv, h, hI⟩ := h
  obtain ⟨lab2, labm2, h1, -, h4⟩ := h.al hw
  exact ⟨lab2, labm2, m, fv, tv, h4, hI.move h1 hb⟩
theorem QC.al (h : QC w d mb xb i o ov D gs ga gn gc wc wa wn wp w') (hw : w2 = w'.alloc (.cells #[.int .u8 0, .slice none 0 0] 44)) : QC w d mb xb i o ov D (w'.heap.size :: gs) ga gn gc wc wa wn wp w2 := by
  have hb : Below w'.heap.size w' w2 := by rw [hw]; (repeat (first | with_reducible exact Below.rf _ | with_reducible exact World.below_ext _ _ | with_reducible refine Below.ex ?_ _ | with_reducible refine Below.al ?_ _ | with_reducible refine Below.setCell ?_ (by simp) _ | with_reducible refine Below.drew ?_))
  obtain ⟨lab, labm, m, fv, tv, Y, wv, h, hI, hJ, hR⟩ := h
  obtain ⟨lab2, labm2, h1, h2, h4⟩ := h.al hw
  exact ⟨lab2, labm2, m, fv, tv, Y, wv, h4, hI.move h1 hb, hJ.move h2 hb, hR⟩
end
/-- The desk's step. -/
theorem QA.call {w w' : World} {d mb xb i sb so n : Nat} {o : Nat → Opr} {lao : Nat → Option Addr} {lcap : Nat → Nat} {D : Dk} {gs : List Nat} (h : QA w d mb xb i (o i) (.slice (lao i) (o i).l.length (lcap i)) D gs w') (hS : Scr w sb so n o lao lcap) (hin : i < n) (hn1 : n ≤ 65536) (hl : (o i).l.length ≤ 65536) :
    Calls Try.prog 12 #[.pointer (some ⟨d, 0, none⟩), .agg #[.int .i64 ((o i).K), .int .i64 ((o i).A), .int .i64 ((o i).B), .int .i64 ((o i).C), .int .i64 ((o i).D), .int .i64 ((o i).E), .slice (lao i) (o i).l.length (lcap i)]] w' fun e w2 => ∃ ga gn gc, e = .returned (.agg #[.int .u8 (D.step (o i)).2.1, .slice ga gn gc]) ∧ QB w d mb xb i (o i) (.slice (lao i) (o i).l.length (lcap i)) D gs ga gn gc w2 := by
  obtain ⟨lab, labm, m, fv, tv, h⟩ := h
  refine (h.play.call hS hin hn1 hl).mono ?_
  rintro e w5 ⟨l5, m5, av, rfl, hD5, hIv, hl5, hk5⟩
  obtain ⟨ga, gc, hav, -⟩ := hIv.ex
  subst hav
  obtain ⟨labm5, g1, g2, g3⟩ := h.pm.desk h.play.bl.size hk5 hl5
  refine ⟨ga, _, gc, rfl, l5, labm5, m5, fv, tv, ⟨h.play.next (o i) hD5 hl5 hk5, g3, h.ob.keptL hk5.k (by rw [h.lo]; unfold doL; omega), (hl5 _ h.ob.lt).trans h.lo, fun b hb => ⟨(h.gs b hb).1.of_block hk5.size (hk5.o b (h.gs b hb).1.lt (h.gs b hb).2.1.1 (h.gs b hb).2.1.2), ⟨(hl5 _ (h.gs b hb).1.lt).trans (h.gs b hb).2.1.1, (h.gs b hb).2.1.2⟩, (g1 _ (h.gs b hb).1.lt).trans (h.gs b hb).2.2.1, (h.gs b hb).2.2.2⟩⟩, hIv⟩
/-- The model's step. -/
theorem QB.call {w w' : World} {d mb xb i sb so n : Nat} {o : Nat → Opr} {lao : Nat → Option Addr} {lcap : Nat → Nat} {D : Dk} {gs : List Nat} {ga : Option Addr} {gn gc : Nat} (h : QB w d mb xb i (o i) (.slice (lao i) (o i).l.length (lcap i)) D gs ga gn gc w') (hS : Scr w sb so n o lao lcap) (hin : i < n) (hl : (o i).l.length ≤ 65536) (hX : ∀ X, D.W = some X → X.T.held ≤ X.T.cap ∧ FEx X.F) (hnr : ∀ X, D.W = some X → X.T.nr = X.F.bays.length) :
    Calls Try.prog 13 #[.pointer (some ⟨mb, 0, none⟩), .agg #[.int .i64 ((o i).K), .int .i64 ((o i).A), .int .i64 ((o i).B), .int .i64 ((o i).C), .int .i64 ((o i).D), .int .i64 ((o i).E), .slice (lao i) (o i).l.length (lcap i)]] w' fun e w2 => ∃ wc wa wn wp, e = .returned (.agg #[.int .u8 (wc : Nat), .slice wa wn wp]) ∧ QC w d mb xb i (o i) (.slice (lao i) (o i).l.length (lcap i)) D gs ga gn gc wc wa wn wp w2 := by
  obtain ⟨lab, labm, m, fv, tv, h, hI⟩ := h
  obtain ⟨hA, hB, hC, hD, hE⟩ := hS.op i hin
  have hO : OpI (o i) := ⟨hA, hB, hC, hD, hE, hl⟩
  have hv : Ints w' labm (.slice (lao i) (o i).l.length (lcap i)) (o i).l := ((hS.iv i hin).relab (lab' := labm) (fun b hb _ => Or.inl (h.pm.z b hb))).keptL (A := fun _ => False) (KeptL.of_below h.play.bl) (fun _ h => h.elim)
  have fin : ∀ (Y' : Option MW) (wc : Nat) (wv : List Int) (e : Ending) (w2 : World), MRel D (o i) Y' wc wv → stPost labm mb (Y', wc, wv) w' e w2 → ∃ wc wa wn wp, e = .returned (.agg #[.int .u8 (wc : Nat), .slice wa wn wp]) ∧ QC w d mb xb i (o i) (.slice (lao i) (o i).l.length (lcap i)) D gs ga gn gc wc wa wn wp w2 := by
    rintro Y' wc wv e w2 hR ⟨labm2, fv2, tv2, av, rfl, hmd, hIw, hl2, hk2⟩
    obtain ⟨wa, wp, hav, -⟩ := hIw.ex
    simp only at hav hIw hmd
    subst hav
    obtain ⟨k1, k2⟩ := h.pm.kept h.play.dk.b.lt hk2
    obtain ⟨lab2, g1, g2, g3⟩ := h.pm.model h.play hmd hl2 hk2
    have k3 : KeptL lab2 (fun x => x = 1) w' w2 := ⟨k1.os, k1.tape, k1.output, k1.size, fun k hk1 hn => k1.block k hk1 (by rw [← g1 k hk1]; exact hn)⟩
    refine ⟨wc, wa, _, wp, rfl, lab2, labm2, m, fv2, tv2, Y', wv, ⟨g2, g3, h.ob.keptL k1 (by rw [h.lo]; omega), (g1 _ h.ob.lt).trans h.lo, fun b hb => ⟨(h.gs b hb).1.keptL hk2 (by rw [(h.gs b hb).2.2.1]; unfold mdL; omega), ⟨(g1 _ (h.gs b hb).1.lt).trans (h.gs b hb).2.1.1, (h.gs b hb).2.1.2⟩, (hl2 _ (h.gs b hb).1.lt).trans (h.gs b hb).2.2.1, (h.gs b hb).2.2.2⟩⟩, ?_, hIw, hR⟩
    exact (hI.relab (fun b hb hx => by rw [g1 b hb]; exact hx)).keptL k3 (fun x hx => by omega)
  by_cases hq : isRq D (o i)
  · obtain ⟨hK, hodd, hWn⟩ := hq
    cases hW : D.W with
    | none => exact absurd hW hWn
    | some X =>
      have hmd := h.pm.md
      rw [hW] at hmd
      have hreq : ∀ e w2, stReq labm mb (mw X) (o i) w' e w2 → ∃ wc wa wn wp, e = .returned (.agg #[.int .u8 (wc : Nat), .slice wa wn wp]) ∧ QC w d mb xb i (o i) (.slice (lao i) (o i).l.length (lcap i)) D gs ga gn gc wc wa wn wp w2 := by
        rintro e w2 ⟨code, arr, hs, hp⟩
        exact fin _ _ _ e w2 (Or.inr ⟨⟨hK, hodd, hWn⟩, X, hW, rfl, code, arr, hs, rfl⟩) hp
      rcases hK with hK | hK
      · exact (st_req5 mb fv tv (o i) _ labm w' (mw X) hmd hv hO (hnr X hW) hK hodd).mono hreq
      · exact (st_req6 mb fv tv (o i) _ labm w' (mw X) hmd hv hO hK hodd).mono hreq
  · refine (stepM mb fv tv (o i) _ labm w' D h.pm.md hv hO hX hq).mono ?_
    intro e w2 hp
    exact fin _ _ _ e w2 (Or.inl ⟨hq, rfl, rfl⟩) hp
/-- Behind the stores. -/
def QF (w : World) (d mb xb i : Nat) (o : Opr) (ov : Value) (D : Dk) (g k : Nat) (ga : Option Addr) (gn gc : Nat) (wc : Nat) (wa : Option Addr) (wn wp : Nat) (w' : World) : Prop := ∃ lab labm m fv tv Y wv, Q3 w w' lab labm d mb xb (i + 1) o ov m (D.step o).1 fv tv Y [] ∧ Ints w' lab (.slice ga gn gc) (D.step o).2.2 ∧ Ints w' labm (.slice wa wn wp) wv ∧ MRel D o Y wc wv ∧ Blk w' g 2 (fc (.int .u8 (D.step o).2.1) (.slice ga gn gc) undef undef) ∧ Blk w' k 2 (fc (.int .u8 wc) (.slice wa wn wp) undef undef)
theorem Q3.set {w w' w2 : World} {lab labm : Nat → Nat} {d mb xb i g : Nat} {o : Opr} {ov : Value} {m : DM} {D : Dk} {fv tv : Value} {Y : Option MW} (h : Q3 w w' lab labm d mb xb i o ov m D fv tv Y []) (hk : KeptBut g w' w2) (hs : w'.heap.size = w2.heap.size) (hl : lab g = 1 ∧ g ≠ d) (hm : labm g = 5) (hg : w.heap.size ≤ g) : Q3 w w2 lab labm d mb xb i o ov m D fv tv Y [] :=
  ⟨h.play.kept1 hk hl.1 (fun e => hl.2 e.symm) hg, h.pm.own hk hm hs, h.ob.kept hk (fun e => by have := h.lo; rw [e, hl.1] at this; omega), h.lo, fun b hb => by simp at hb⟩
theorem QC.fin {w w' : World} {d mb xb i : Nat} {o : Opr} {ov : Value} {D : Dk} {gs : List Nat} {ga wa : Option Addr} {gn gc wc wn wp : Nat} (h : QC w d mb xb i o ov D gs ga gn gc wc wa wn wp w') (g k : Nat) (hg : g ∈ gs) (hk : k ∈ gs) (hne : g ≠ k) :
    QF w d mb xb i o ov D g k ga gn gc wc wa wn wp ((((w'.setCell ⟨g, 0, none⟩ (.int .u8 (D.step o).2.1)).setCell ⟨g, 1, none⟩ (.slice ga gn gc)).setCell ⟨k, 0, none⟩ (.int .u8 wc)).setCell ⟨k, 1, none⟩ (.slice wa wn wp)) := by
  obtain ⟨lab, labm, m, fv, tv, Y, wv, h, hI, hJ, hR⟩ := h
  obtain ⟨g1, g2, g3, g4⟩ := h.gs g hg
  obtain ⟨k1, k2, k3, k4⟩ := h.gs k hk
  have h0 : Q3 w w' lab labm d mb xb (i + 1) o ov m (D.step o).1 fv tv Y [] := { h with gs := fun b hb => by simp at hb }
  have kb : KeptBut g w' ((w'.setCell ⟨g, 0, none⟩ (.int .u8 (D.step o).2.1)).setCell ⟨g, 1, none⟩ (.slice ga gn gc)) := by
    refine KeptBut.set ?_ (Or.inl (by rfl)) _
    refine KeptBut.set ?_ (Or.inl (by rfl)) _
    exact KeptBut.refl _ _
  have b1 : Blk ((w'.setCell ⟨g, 0, none⟩ (.int .u8 (D.step o).2.1)).setCell ⟨g, 1, none⟩ (.slice ga gn gc)) g 2 (fc (.int .u8 (D.step o).2.1) (.slice ga gn gc) undef undef) := by
    refine ((g1.set 0 _ (by omega)).set 1 _ (by omega)).congr (fun j hj => ?_)
    rcases (by omega : j = 0 ∨ j = 1) with rfl | rfl <;> rfl
  have hs1 : w'.heap.size = ((w'.setCell ⟨g, 0, none⟩ (.int .u8 (D.step o).2.1)).setCell ⟨g, 1, none⟩ (.slice ga gn gc)).heap.size := by simp
  generalize ((w'.setCell ⟨g, 0, none⟩ (.int .u8 (D.step o).2.1)).setCell ⟨g, 1, none⟩ (.slice ga gn gc)) = w1 at *
  have h1 := h0.set kb hs1 g2 g3 g4
  have q1 := KeptL.of_but (lab := lab) (A := fun x => x = 1) kb g2.1
  have q2 := KeptL.of_but (lab := labm) (A := fun x => x = 5) kb g3
  have hI1 := hI.keptL q1 (fun x hx => by omega)
  have hJ1 := hJ.keptL q2 (fun x hx => by omega)
  have k1' := k1.kept kb (fun e => hne e.symm)
  have kb2 : KeptBut k w1 ((w1.setCell ⟨k, 0, none⟩ (.int .u8 wc)).setCell ⟨k, 1, none⟩ (.slice wa wn wp)) := by
    refine KeptBut.set ?_ (Or.inl (by rfl)) _
    refine KeptBut.set ?_ (Or.inl (by rfl)) _
    exact KeptBut.refl _ _
  have b2 : Blk ((w1.setCell ⟨k, 0, none⟩ (.int .u8 wc)).setCell ⟨k, 1, none⟩ (.slice wa wn wp)) k 2 (fc (.int .u8 wc) (.slice wa wn wp) undef undef) := by
    refine ((k1'.set 0 _ (by omega)).set 1 _ (by omega)).congr (fun j hj => ?_)
    rcases (by omega : j = 0 ∨ j = 1) with rfl | rfl <;> rfl
  have hs2 : w1.heap.size = ((w1.setCell ⟨k, 0, none⟩ (.int .u8 wc)).setCell ⟨k, 1, none⟩ (.slice wa wn wp)).heap.size := by simp
  generalize ((w1.setCell ⟨k, 0, none⟩ (.int .u8 wc)).setCell ⟨k, 1, none⟩ (.slice wa wn wp)) = w2 at *
  have h2 := h1.set kb2 hs2 k2 k3 k4
  have q3 := KeptL.of_but (lab := lab) (A := fun x => x = 1) kb2 k2.1
  have q4 := KeptL.of_but (lab := labm) (A := fun x => x = 5) kb2 k3
  exact ⟨lab, labm, m, fv, tv, Y, wv, h2, hI1.keptL q3 (fun x hx => by omega), hJ1.keptL q4 (fun x hx => by omega), hR, b1.kept kb2 hne, b2⟩
end Go.Proofs.Qxb6500716a
