/-
  The whole model in memory; what a step leaves.
-/
import Derived.Maps.OwnSet
import Derived.Test.Qxb6500717aGreatMh
import Derived.Test.Qxb6500717aGreatDk
namespace Go.Proofs.Qxb6500717aGreat
open Go.RowKit Go.Maps
set_option linter.unusedSimpArgs false
set_option linter.unusedVariables false
set_option maxRecDepth 20000
set_option maxHeartbeats 4000000

/-- Integers in a row of a new block. -/
def IntsAt (w : World) (base : Nat) (v : Value) (l : List Int) : Prop :=
  ∃ (ao : Option Addr) (cap : Nat), v = .slice ao l.length cap ∧ l.length ≤ cap ∧ (l = [] ∨ ∃ b, ao = some ⟨b, 0, none⟩ ∧ base ≤ b ∧ b < w.heap.size ∧ ∀ i x, l[i]? = some x → w.cell? ⟨b, i, none⟩ = some (.int .i64 (x)))
theorem IntsAt.nil (w : World) (base : Nat) : IntsAt w base (.slice none 0 0) [] := ⟨none, 0, rfl, Nat.le_refl _, Or.inl rfl⟩
theorem IntsAt.one {w : World} {base b : Nat} {x : Int} (h1 : base ≤ b) (h2 : b < w.heap.size) (h3 : w.cell? ⟨b, 0, none⟩ = some (.int .i64 (x))) : IntsAt w base (.slice (some ⟨b, 0, none⟩) 1 1) [x] :=
  ⟨_, 1, rfl, Nat.le_refl _, Or.inr ⟨b, rfl, h1, h2, fun i y hi => by
    have := (List.getElem?_eq_some_iff.1 hi).1
    simp at this
    subst this
    simp at hi
    subst hi
    exact h3⟩⟩
theorem IntsAt.three {w : World} {base b : Nat} {x y z : Int} (h1 : base ≤ b) (h2 : b < w.heap.size) (h3 : w.cell? ⟨b, 0, none⟩ = some (.int .i64 (x))) (h4 : w.cell? ⟨b, 1, none⟩ = some (.int .i64 (y))) (h5 : w.cell? ⟨b, 2, none⟩ = some (.int .i64 (z))) : IntsAt w base (.slice (some ⟨b, 0, none⟩) 3 3) [x, y, z] :=
  ⟨_, 3, rfl, Nat.le_refl _, Or.inr ⟨b, rfl, h1, h2, fun i u hi => by
    have := (List.getElem?_eq_some_iff.1 hi).1
    simp at this
    rcases (by omega : i = 0 ∨ i = 1 ∨ i = 2) with rfl | rfl | rfl <;> simp at hi <;> subst hi
    · exact h3
    · exact h4
    · exact h5⟩⟩
theorem IntsAt.of {w w' : World} {base base' : Nat} {v : Value} {l : List Int} (h : IntsAt w base v l) (hs : w.heap.size ≤ w'.heap.size) (hb : ∀ j, base ≤ j → j < w.heap.size → w'.heap[j]? = w.heap[j]?) (hbb : base' ≤ base) : IntsAt w' base' v l := by
  obtain ⟨ao, cap, h1, h2, h3⟩ := h
  refine ⟨ao, cap, h1, h2, ?_⟩
  rcases h3 with h3 | ⟨b, e, h4, h5, h6⟩
  · exact Or.inl h3
  · exact Or.inr ⟨b, e, by omega, by omega, fun i u hu => by rw [World.cell?_of_block (hb b h4 h5)]; exact h6 i u hu⟩

/-- The model. -/
structure ModS where
  S : MdS
  H : List Ent
  px : Nat
  ms : Nat
  mf : Int → Option Int
  mn : Nat
/-- The model's heap. -/
def HpV (w : World) (lab : Nat → Nat) (v : Value) (H : List Ent) : Prop :=
  ∃ (ao : Option Addr) (cap : Nat), v = .slice ao H.length cap ∧ H.length ≤ cap ∧ ((ao = none ∧ cap = 0) ∨ ∃ b, ao = some ⟨b, 0, none⟩ ∧ lab b = 32 ∧ HX w b cap H)
/-- The model's marks. -/
def MkV (w : World) (lab : Nat → Nat) (v : Value) (k ms : Nat) (mk : Int → Option Int) (mn : Nat) : Prop :=
  (v = .map none ∧ ms = 0 ∧ (mk = fun _ => none) ∧ mn = 0) ∨
  ∃ (b n : Nat) (D : DataW Unit), v = .map (some b) ∧ lab b = 33 ∧ n ≤ k ∧ w.ownsMap Tryz.prog 3 (plainElem Tryz.prog 3) b n D ∧ (∀ i, Maps.has D (.int .i64 i) = (mk i).isSome) ∧ (∀ i x, mk i = some x → D.atKey (.int .i64 i) (.lit (.int .i64 0)) = .lit (.int .i64 x)) ∧ Maps.size D = mn
structure ModX (w : World) (lab : Nat → Nat) (m k : Nat) (M : ModS) : Prop where
  lm : lab m = 30
  hl : ∀ j, w.heap.size ≤ j → lab j = 0
  ex : ∃ V : Nat → Value, MdX w m M.S ⟨V, fun b => lab b = 31 ∨ w.heap.size ≤ b⟩ ∧ V 8 = .int .i64 (M.px) ∧ V 9 = .int .i64 (M.ms) ∧ HpV w lab (V 7) M.H ∧ MkV w lab (V 10) k M.ms M.mf M.mn
  ft : M.S.fits
  bk : M.H.length ≤ k ∧ M.px ≤ k ∧ M.ms ≤ 4096

section
variable {w w' w1 : World} {lab lab' : Nat → Nat} {v : Value} {H : List Ent} {k k' ms mn : Nat} {mk : Int → Option Int}
theorem HpV.of (h : HpV w lab v H) (hs : w.heap.size ≤ w'.heap.size) (hl : ∀ j, j < w.heap.size → lab j = 32 → lab' j = 32) (hb : ∀ j, j < w.heap.size → lab j = 32 → w'.heap[j]? = w.heap[j]?) : HpV w' lab' v H := by
  obtain ⟨ao, cap, h1, h2, h3⟩ := h
  refine ⟨ao, cap, h1, h2, ?_⟩
  rcases h3 with h3 | ⟨b, e, h4, h5⟩
  · exact Or.inl h3
  · exact Or.inr ⟨b, e, hl b h5.lt h4, Pad.of_block h5 hs (hb b h5.lt h4)⟩
theorem MkV.of (h : MkV w lab v k ms mk mn) (hk : k ≤ k') (hs : w.heap.size ≤ w'.heap.size) (hl : ∀ j, j < w.heap.size → lab j = 33 → lab' j = 33) (hb : ∀ j, j < w.heap.size → lab j = 33 → w'.heap[j]? = w.heap[j]?) : MkV w' lab' v k' ms mk mn := by
  rcases h with h | ⟨b, n, D, h1, h2, h3, h4, h5⟩
  · exact Or.inl h
  · have hlt := h4.lt
    obtain ⟨es, clock, hb', F, hs', hD⟩ := h4
    exact Or.inr ⟨b, n, D, h1, hl b hlt h2, by omega, ⟨es, clock, (hb b hlt h2).trans hb', F, hs', hD⟩, h5⟩
/-- The lists' kinds are told anew. -/
theorem MdX.reG {m : Nat} {S : MdS} {V : Nat → Value} {G G1 : Nat → Prop} (h : MdX w m S ⟨V, G⟩) (hb : Below w.heap.size w w1) (hg : ∀ j, j < w.heap.size → G j → G1 j) (hf : ∀ j, w1.heap.size ≤ j → G1 j) (hm : ¬ G1 m) : MdX w1 m S ⟨V, G1⟩ := by
  obtain ⟨v5, a5, b5⟩ := h.z5
  obtain ⟨v6, a6, b6⟩ := h.z6
  have e := hb.block m h.rd.lt
  exact ⟨h.rd.below hb, fun i hi => (World.frozen?_of_block e).trans (h.fz i hi), fun i h1 h2 => (World.cell?_of_block e).trans (h.cv i h1 h2), ⟨v5, (World.cell?_of_block e).trans a5, (b5.mono hg).below hb⟩, ⟨v6, (World.cell?_of_block e).trans a6, (b6.mono hg).below hb⟩, hm, hf⟩
/-- Only some block was written, which is neither the model's nor a list's. -/
theorem MdX.kb {m c : Nat} {S : MdS} {V : MV} (h : MdX w m S V) (hk : KeptBut c w w') (hc : c ≠ m) (hg : ¬ V.G c) : MdX w' m S V := by
  obtain ⟨v5, a5, b5⟩ := h.z5
  obtain ⟨v6, a6, b6⟩ := h.z6
  have e := hk.block m h.rd.lt (Ne.symm hc)
  have ce : ∀ i, w'.cell? ⟨m, i, none⟩ = w.cell? ⟨m, i, none⟩ := fun i => World.cell?_of_block e
  have z5 := b5.kept hg hk
  have z6 := b6.kept hg hk
  exact ⟨⟨Nat.lt_of_lt_of_le h.rd.lt hk.size, (ce 0).trans h.rd.c0, (ce 1).trans h.rd.c1, (ce 2).trans h.rd.c2, (ce 3).trans h.rd.c3, (ce 4).trans h.rd.c4, ⟨v5, (ce 5).trans a5, z5.lat⟩, ⟨v6, (ce 6).trans a6, z6.lat⟩, h.rd.bn, h.rd.bt, h.rd.bs⟩, fun i hi => (World.frozen?_of_block e).trans (h.fz i hi), fun i h1 h2 => (ce i).trans (h.cv i h1 h2), ⟨v5, (ce 5).trans a5, z5⟩, ⟨v6, (ce 6).trans a6, z6⟩, h.gm, fun j hj => h.gf j (Nat.le_trans hk.size hj)⟩
end
def G1 (lab : Nat → Nat) (n : Nat) (b : Nat) : Prop := lab b = 31 ∨ n ≤ b
def relab (lab : Nat → Nat) (n n' : Nat) (j : Nat) : Nat := if j < n then lab j else if j < n' then 31 else 0
def modL (x : Nat) : Prop := x = 30 ∨ x = 32 ∨ x = 33
def stPost (lab : Nat → Nat) (m k : Nat) (X : (Int × List Int) × ModS) (w : World) (e : Ending) (w' : World) : Prop :=
  ∃ (v : Value) (lab' : Nat → Nat), e = .returned (.agg #[.int .u8 X.1.1, v]) ∧ IntsAt w' w.heap.size v X.1.2 ∧ ModX w' lab' m (k + 1) X.2 ∧ (∀ j, j < w.heap.size → lab' j = lab j) ∧ (∀ j, w.heap.size ≤ j → lab' j = 0 ∨ 31 ≤ lab' j) ∧ KeptL lab modL w w'

section
variable {w w1 w5 w6 : World} {lab : Nat → Nat} {m k : Nat} {M : ModS}
/-- The model is opened behind the boxes. -/
theorem ModX.opens (h : ModX w lab m k M) : ∃ V : Nat → Value, (∀ w1, Below w.heap.size w w1 → MdX w1 m M.S ⟨V, G1 lab w1.heap.size⟩) ∧ V 8 = .int .i64 (M.px) ∧ V 9 = .int .i64 (M.ms) ∧ HpV w lab (V 7) M.H ∧ MkV w lab (V 10) k M.ms M.mf M.mn := by
  obtain ⟨V, h1, h2, h3, h4, h5⟩ := h.ex
  refine ⟨V, fun w1 hb => h1.reG hb (fun j hj hg => ?_) (fun j hj => Or.inr hj) (fun hg => ?_), h2, h3, h4, h5⟩
  · rcases hg with hg | hg
    · exact Or.inl hg
    · exact absurd hj (by omega)
  · have := h.lm
    have l1 := h1.rd.lt
    have s1 := hb.size
    rcases hg with hg | hg <;> omega
/-- A step that touches the table alone. -/
theorem st_fin {V : Nat → Value} {S' : MdS} {c : Int} {vals : List Int} {v : Value} {w5 w6 : World} (h : ModX w lab m k M) (h8 : V 8 = .int .i64 (M.px)) (h9 : V 9 = .int .i64 (M.ms)) (h7 : HpV w lab (V 7) M.H) (h10 : MkV w lab (V 10) k M.ms M.mf M.mn)
    (hb : Below w.heap.size w w1) (hs : w.heap.size + 1 < w1.heap.size) (hM : MdX w5 m S' ⟨V, G1 lab w1.heap.size⟩) (hk : KeptBut m w1 w5) (hkb : KeptBut (w.heap.size + 1) w5 w6) (hf : S'.fits) (hv : IntsAt w6 w.heap.size v vals) :
    stPost lab m k ((c, vals), { M with S := S' }) w (.returned (.agg #[.int .u8 c, v])) w6 := by
  have s1 := hb.size
  have s5 := hk.size
  have s6 := hkb.size
  have lm : m < w.heap.size := by obtain ⟨V, h1, -⟩ := h.ex; exact h1.rd.lt
  have key : ∀ j, j < w.heap.size → j ≠ m → w6.heap[j]? = w.heap[j]? := fun j hj hn => by
    rw [hkb.block j (by omega) (by omega), hk.block j (by omega) hn, hb.block j hj]
  have nm : ∀ {x j : Nat}, x ≠ 30 → lab j = x → j ≠ m := fun hx e e2 => by subst e2; exact hx (e.symm.trans h.lm)
  have hM6 : MdX w6 m S' ⟨V, G1 lab w1.heap.size⟩ := hM.kb hkb (by omega) (fun hg => by
    rcases hg with hg | hg
    · rw [h.hl _ (by omega)] at hg; omega
    · omega)
  have rl : ∀ j, j < w.heap.size → relab lab w1.heap.size w6.heap.size j = lab j := fun j hj => if_pos (by omega)
  refine ⟨v, relab lab w1.heap.size w6.heap.size, rfl, hv, ⟨(rl m lm).trans h.lm, fun j hj => ?_, ⟨V, ?_, h8, h9, ?_, ?_⟩, hf, ⟨by have := h.bk.1; show M.H.length ≤ k + 1; omega, by have := h.bk.2.1; show M.px ≤ k + 1; omega, h.bk.2.2⟩⟩, rl, fun j hj => ?_, ?_⟩
  · unfold relab; rw [if_neg (by omega), if_neg (by omega)]
  · refine hM6.reG (Below.rf _) (fun j hj hg => ?_) (fun j hj => Or.inr hj) (fun hg => ?_)
    · rcases hg with hg | hg
      · left
        have : j < w.heap.size := by
          by_cases hjj : j < w.heap.size
          · exact hjj
          · rw [h.hl j (by omega)] at hg; omega
        rw [rl j this]; exact hg
      · left
        unfold relab
        rw [if_neg (by omega), if_pos hj]
    · rcases hg with hg | hg
      · rw [rl m lm, h.lm] at hg; omega
      · omega
  · exact h7.of (by omega) (fun j hj hl => (rl j hj).trans hl) (fun j hj hl => key j hj (nm (by omega) hl))
  · exact h10.of (by omega) (by omega) (fun j hj hl => (rl j hj).trans hl) (fun j hj hl => key j hj (nm (by omega) hl))
  · unfold relab
    split
    · left; exact h.hl j hj
    · split
      · right; exact Nat.le_refl _
      · left; rfl
  · refine ⟨?_, ?_, ?_, by omega, fun j hj hn => key j hj (fun e => hn (by subst e; left; exact h.lm))⟩
    · rw [hkb.os, hk.os, hb.os]
    · rw [hkb.tape, hk.tape, hb.tape]
    · rw [hkb.output, hk.output, hb.output]
/-- The same where the model's block was written ahead of the boxes. -/
theorem st_fin2 {V' : Nat → Value} {M' : ModS} {c : Int} {vals : List Int} {v : Value} {w6 : World} (h : ModX w lab m k M) (h8 : V' 8 = .int .i64 (M'.px)) (h9 : V' 9 = .int .i64 (M'.ms)) (h7 : HpV w lab (V' 7) M'.H) (h10 : MkV w lab (V' 10) (k + 1) M'.ms M'.mf M'.mn)
    (hM : MdX w6 m M'.S ⟨V', G1 lab w.heap.size⟩) (hk : KeptBut m w w6) (hf : M'.S.fits) (hbk : M'.H.length ≤ k + 1 ∧ M'.px ≤ k + 1 ∧ M'.ms ≤ 4096) (hv : IntsAt w6 w.heap.size v vals) :
    stPost lab m k ((c, vals), M') w (.returned (.agg #[.int .u8 c, v])) w6 := by
  have s5 := hk.size
  have lm : m < w.heap.size := by obtain ⟨V, h1, -⟩ := h.ex; exact h1.rd.lt
  have key : ∀ j, j < w.heap.size → j ≠ m → w6.heap[j]? = w.heap[j]? := fun j hj hn => hk.block j hj hn
  have nm : ∀ {x j : Nat}, x ≠ 30 → lab j = x → j ≠ m := fun hx e e2 => by subst e2; exact hx (e.symm.trans h.lm)
  have rl : ∀ j, j < w.heap.size → relab lab w.heap.size w6.heap.size j = lab j := fun j hj => if_pos (by omega)
  refine ⟨v, relab lab w.heap.size w6.heap.size, rfl, hv, ⟨(rl m lm).trans h.lm, fun j hj => ?_, ⟨V', ?_, h8, h9, ?_, ?_⟩, hf, hbk⟩, rl, fun j hj => ?_, ?_⟩
  · unfold relab; rw [if_neg (by omega), if_neg (by omega)]
  · refine hM.reG (Below.rf _) (fun j hj hg => ?_) (fun j hj => Or.inr hj) (fun hg => ?_)
    · rcases hg with hg | hg
      · left
        have : j < w.heap.size := by
          by_cases hjj : j < w.heap.size
          · exact hjj
          · rw [h.hl j (by omega)] at hg; omega
        rw [rl j this]; exact hg
      · left
        unfold relab
        rw [if_neg (by omega), if_pos hj]
    · rcases hg with hg | hg
      · rw [rl m lm, h.lm] at hg; omega
      · omega
  · exact h7.of (by omega) (fun j hj hl => (rl j hj).trans hl) (fun j hj hl => key j hj (nm (by omega) hl))
  · exact h10.of (by omega) (by omega) (fun j hj hl => (rl j hj).trans hl) (fun j hj hl => key j hj (nm (by omega) hl))
  · unfold relab
    split
    · left; exact h.hl j hj
    · split
      · right; exact Nat.le_refl _
      · left; rfl
  · exact ⟨hk.os, hk.tape, hk.output, hk.size, fun j hj hn => key j hj (fun e => hn (by subst e; left; exact h.lm))⟩
end
end Go.Proofs.Qxb6500717aGreat
