/-
  Refines: the model's table under labels that serve for reading both; Adopt.
-/
import Derived.Test.Qxb6500716aRt
namespace Go.Proofs.Qxb6500716a
open Go.RowKit Go.Maps
set_option linter.unusedSimpArgs false
set_option linter.unusedVariables false
set_option maxRecDepth 20000
set_option maxHeartbeats 4000000
def mgl (lab labm : Nat → Nat) (b : Nat) : Nat := if labm b = 2 ∨ labm b = 3 ∨ labm b = 4 then labm b else if 1 ≤ lab b ∧ lab b ≤ 9 then 5 else lab b
theorem TAt.relabS {w : World} {lab lab' : Nat → Nat} {M : TM} {T : TS} (h : TAt w lab M T) (hl : ∀ b, b < w.heap.size → (lab b = 2 ∨ lab b = 3 ∨ lab b = 4) → lab' b = lab b) : TAt w lab' M T := by
  refine { h with bs := ?_, lt := (hl _ h.bt.lt (Or.inl h.lt)).trans h.lt, lm := (hl _ h.bm.lt (Or.inr (Or.inl h.lm))).trans h.lm }
  obtain ⟨ao, cap, h1, h2, h3⟩ := h.bs.ex
  refine ⟨h.bs.len, ao, cap, h1, h2, ?_⟩
  rcases h3 with h3 | ⟨b, e, hlab, hp⟩
  · exact Or.inl h3
  · exact Or.inr ⟨b, e, ⟨(hl b hp.lt (Or.inr (Or.inr hlab.1))).trans hlab.1, hlab.2⟩, hp⟩
section
variable {w0 wr w5 : World} {lab labm : Nat → Nat} {d mb i : Nat} {fv tv : Value} {X : MW}
theorem Pm.old (h : Pm w0 wr lab labm d mb fv tv (some X)) : ∀ b, b < wr.heap.size → (lab b = 0 ∨ 10 ≤ lab b) → (mgl lab labm b = 0 ∨ 10 ≤ mgl lab labm b) := fun b hb hx => by
  have h2 := h.s2 b hb
  unfold mgl
  rw [if_neg (fun e => by
    have := h2 (by omega) (by omega)
    omega), if_neg (by omega)]
  exact hx
theorem Pm.see (h : Pm w0 wr lab labm d mb fv tv (some X)) : ∃ (fb : Nat) (M : TM), fv = .pointer (some ⟨fb, 0, none⟩) ∧ tv = .pointer (some ⟨M.t, 0, none⟩) ∧ FAt wr (mgl lab labm) fb X.F ∧ TAt wr (mgl lab labm) M X.T ∧ MoAt wr mb fb M.t ∧ FAt wr labm fb X.F ∧ ¬ tabL (mgl lab labm mb) := by
  obtain ⟨fb, M, h1, h2, h3, h4⟩ := h.md.wd
  refine ⟨fb, M, h1, h2, h3.relab (fun b hb hx => ?_), h4.relabS (fun b hb hx => by unfold mgl; rw [if_pos hx]), ⟨?_, ?_, h.md.b.lt⟩, h3, ?_⟩
  · have h5 := h.s1 b hb
    unfold mgl
    rw [if_neg (by omega), if_neg (fun e => by
      have := h5 e.1 e.2
      omega)]
    rcases Nat.lt_or_ge (lab b) 1 with g | g
    · exact Or.inl (by omega)
    · rcases Nat.lt_or_ge 9 (lab b) with g2 | g2
      · exact Or.inr g2
      · have := h5 g g2
        omega
  · rw [h.md.b.is 0 (by omega)]
    show some fv = _
    rw [h1]
  · rw [h.md.b.is 1 (by omega)]
    show some tv = _
    rw [h2]
  · have h6 := (h.s2 mb h.md.b.lt (by rw [h.md.lb]; omega) (by rw [h.md.lb]; omega)).1
    unfold mgl
    rw [if_neg (by rw [h.md.lb]; omega), if_pos (by omega)]
    unfold tabL
    omega
/-- Behind Adopt. -/
theorem Pm.adopt {fb : Nat} {M : TM} {T' : TS} {m : DM} {D : Dk} (h : Pm w0 wr lab labm d mb fv tv (some X)) (hP : Play w0 wr lab d i m D) (h1 : fv = .pointer (some ⟨fb, 0, none⟩)) (h2 : tv = .pointer (some ⟨M.t, 0, none⟩)) (hF : FAt wr labm fb X.F) (hs : St2 wr (mgl lab labm) M w5 T') : ∃ lab5 labm5, Play w0 w5 lab5 d i m D ∧ Pm w0 w5 lab5 labm5 d mb fv tv (some { X with T := T' }) := by
  obtain ⟨l2, M2, g1, g2, g3, g4, g5⟩ := hs
  have hkm : KeptL labm mdL wr w5 := ⟨g5.os, g5.tape, g5.output, g5.size, fun k hk hn => g5.block k hk (fun ht => by
    unfold mgl at ht
    unfold mdL at hn
    split at ht
    · omega
    · split at ht
      · unfold tabL at ht
        omega
      · unfold tabL at ht
        omega)⟩
  have hud : ∀ b, b < wr.heap.size → (fun b => if b < wr.heap.size then labm b else if l2 b = 2 ∨ l2 b = 3 ∨ l2 b = 4 then l2 b else 0) b = labm b := fun b hb => if_pos hb
  have hun : ∀ b, wr.heap.size ≤ b → (fun b => if b < wr.heap.size then labm b else if l2 b = 2 ∨ l2 b = 3 ∨ l2 b = 4 then l2 b else 0) b = if l2 b = 2 ∨ l2 b = 3 ∨ l2 b = 4 then l2 b else 0 := fun b hb => if_neg (by omega)
  generalize (fun b => if b < wr.heap.size then labm b else if l2 b = 2 ∨ l2 b = 3 ∨ l2 b = 4 then l2 b else 0) = lm at hud hun
  have htl : ∀ b, b < wr.heap.size → (mgl lab labm b = 2 ∨ mgl lab labm b = 3 ∨ mgl lab labm b = 4) → labm b = mgl lab labm b := fun b hb hx => by
    unfold mgl at hx ⊢
    by_cases e : labm b = 2 ∨ labm b = 3 ∨ labm b = 4
    · rw [if_pos e]
    · rw [if_neg e] at hx
      exfalso
      split at hx
      · omega
      · rename_i e2
        omega
  have hT5 : TAt w5 lm M2 T' := g1.relabS (fun b hb hx => by
    rcases Nat.lt_or_ge b wr.heap.size with hc | hc
    · rw [g4 b hc] at hx ⊢
      rw [hud b hc]
      exact htl b hc hx
    · rw [hun b hc, if_pos hx])
  have hmd : MdAt w5 lm mb fv tv (some { X with T := T' }) := by
    have hb0 := h.md.b.keptL g5 (by
      obtain ⟨_, _, _, _, _, _, _, _, hx⟩ := h.see
      exact hx)
    refine ⟨hb0, (hud _ h.md.b.lt).trans h.md.lb, fb, M2, h1, by rw [g2]; exact h2, ?_, hT5⟩
    have hk2 : KeptL lm mdL wr w5 := ⟨hkm.os, hkm.tape, hkm.output, hkm.size, fun k hk hn => hkm.block k hk (by rw [← hud k hk]; exact hn)⟩
    exact (hF.relab (fun b hb hx => by rw [hud b hb]; exact hx)).keptL hk2 (fun x hx => by unfold mdL at hx; omega)
  obtain ⟨lab5, q1, q2, q3⟩ := h.model hP hmd hud hkm
  exact ⟨lab5, lm, q2, q3⟩
end
end Go.Proofs.Qxb6500716a
