/-
  Refines: the desk and the model side by side.
-/
import Derived.Test.Qxb6500716aMk
import Derived.Test.Qxb6500716aAd
import Derived.Test.Qxb6500716aLa
import Derived.Test.Qxb6500716aRr
namespace Go.Proofs.Qxb6500716a
open Go.RowKit Go.Maps
set_option linter.unusedSimpArgs false
set_option linter.unusedVariables false
set_option maxRecDepth 20000
set_option maxHeartbeats 4000000
/-- The model beside the desk: its own labels; what the desk may write bears 1 to 9 there too, and what the model may write bears 1 with the desk. -/
structure Pm (w0 wr : World) (lab labm : Nat → Nat) (d mb : Nat) (fv tv : Value) (Y : Option MW) : Prop where
  md : MdAt wr labm mb fv tv Y
  s1 : ∀ b, b < wr.heap.size → 1 ≤ lab b → lab b ≤ 9 → 1 ≤ labm b ∧ labm b ≤ 9
  s2 : ∀ b, b < wr.heap.size → 1 ≤ labm b → labm b ≤ 4 → lab b = 1 ∧ b ≠ d
  z : ∀ b, b < w0.heap.size → labm b = 0
theorem MkAt.keptS {w w' : World} {lab : Nat → Nat} {fv tv : Value} {Y : Option MW} {A : Nat → Prop} (h : MkAt w lab fv tv Y) (hk : KeptL lab A w w') (hA : ∀ x, A x → 5 ≤ x ∧ x ≤ 9) : MkAt w' lab fv tv Y := by
  cases Y with
  | none => exact h
  | some X =>
    obtain ⟨fb, M, h1, h2, h3, h4⟩ := h
    exact ⟨fb, M, h1, h2, h3.keptL hk (fun x hx => by have := hA x hx; omega), h4.keptL hk (fun hx => by have := hA 2 hx; omega) (fun hx => by have := hA 3 hx; omega) (fun hx => by have := hA 4 hx; omega)⟩
section
variable {w0 wr w5 : World} {lab labm lab5 : Nat → Nat} {d mb i : Nat} {fv tv : Value} {Y : Option MW} {m : DM} {D : Dk}
/-- A step of the desk leaves the model. -/
theorem Pm.desk (h : Pm w0 wr lab labm d mb fv tv Y) (hs : w0.heap.size ≤ wr.heap.size) (hk : KD lab d wr w5) (hl : ∀ j, j < wr.heap.size → lab5 j = lab j) : ∃ labm5, (∀ b, b < wr.heap.size → labm5 b = labm b) ∧ (∀ b, wr.heap.size ≤ b → 1 ≤ lab5 b → lab5 b ≤ 9 → labm5 b = 5) ∧ Pm w0 w5 lab5 labm5 d mb fv tv Y := by
  have hud : ∀ b, b < wr.heap.size → (fun b => if b < wr.heap.size then labm b else if 1 ≤ lab5 b ∧ lab5 b ≤ 9 then 5 else 0) b = labm b := fun b hb => if_pos hb
  have hun : ∀ b, wr.heap.size ≤ b → (fun b => if b < wr.heap.size then labm b else if 1 ≤ lab5 b ∧ lab5 b ≤ 9 then 5 else 0) b = if 1 ≤ lab5 b ∧ lab5 b ≤ 9 then 5 else 0 := fun b hb => if_neg (by omega)
  have hkm : KeptL labm (fun x => 5 ≤ x ∧ x ≤ 9) wr w5 := ⟨hk.k.os, hk.k.tape, hk.k.output, hk.size, fun k hk1 hn => by
    by_cases h1 : 1 ≤ labm k ∧ labm k ≤ 4
    · obtain ⟨g1, g2⟩ := h.s2 k hk1 h1.1 h1.2
      exact hk.o k hk1 g1 g2
    · refine hk.k.block k hk1 (fun hd => ?_)
      unfold doL at hd
      have := h.s1 k hk1 hd.1 hd.2
      omega⟩
  have hmd : MdAt w5 labm mb fv tv Y := ⟨h.md.b.keptL hkm (by rw [h.md.lb]; omega), h.md.lb, h.md.wd.keptS hkm (fun x hx => hx)⟩
  generalize (fun b => if b < wr.heap.size then labm b else if 1 ≤ lab5 b ∧ lab5 b ≤ 9 then 5 else 0) = lm at hud hun
  have hmr : MdAt wr lm mb fv tv Y := h.md.relab hud
  have hkm2 : KeptL lm (fun x => 5 ≤ x ∧ x ≤ 9) wr w5 := ⟨hkm.os, hkm.tape, hkm.output, hkm.size, fun k hk1 hn => hkm.block k hk1 (by rw [← hud k hk1]; exact hn)⟩
  refine ⟨lm, hud, fun b hb h1 h2 => by rw [hun b hb, if_pos ⟨h1, h2⟩], ⟨hmr.b.keptL hkm2 (by rw [hmr.lb]; omega), hmr.lb, hmr.wd.keptS hkm2 (fun x hx => hx)⟩, fun b hb h1 h2 => ?_, fun b hb h1 h2 => ?_, fun b hb => (hud b (by omega)).trans (h.z b hb)⟩
  · by_cases hc : b < wr.heap.size
    · rw [hud b hc]
      rw [hl b hc] at h1 h2
      exact h.s1 b hc h1 h2
    · rw [hun b (by omega), if_pos ⟨h1, h2⟩]
      omega
  · by_cases hc : b < wr.heap.size
    · rw [hud b hc] at h1 h2
      rw [hl b hc]
      exact h.s2 b hc h1 h2
    · rw [hun b (by omega)] at h1 h2
      by_cases hx : 1 ≤ lab5 b ∧ lab5 b ≤ 9
      · rw [if_pos hx] at h2
        omega
      · rw [if_neg hx] at h1
        omega
theorem Pm.below (h : Pm w0 wr lab labm d mb fv tv Y) (hs : w0.heap.size ≤ wr.heap.size) (hb : Below wr.heap.size wr w5) (hl : ∀ j, j < wr.heap.size → lab5 j = lab j) : ∃ labm5, (∀ b, b < wr.heap.size → labm5 b = labm b) ∧ (∀ b, wr.heap.size ≤ b → 1 ≤ lab5 b → lab5 b ≤ 9 → labm5 b = 5) ∧ Pm w0 w5 lab5 labm5 d mb fv tv Y :=
  h.desk hs ⟨KeptL.of_below hb, fun j hj _ _ => hb.block j hj⟩ hl
theorem DkAt.keptM (h : DkAt wr lab d m D) (hk : KeptL lab (fun x => x = 1) wr w5) (hd : w5.heap[d]? = wr.heap[d]?) : DkAt w5 lab d m D :=
  ⟨h.b.of_block hk.size hd, h.ld, h.wd.keptL hk (fun x hx => hx), h.g.keptL hk (fun x hx => by omega), h.pp.keptL hk (fun x hx => by omega), h.pd.keptL hk (fun x hx => by omega), h.nl⟩
/-- A variable of the law is written. -/
theorem Pm.own (h : Pm w0 wr lab labm d mb fv tv Y) {g : Nat} (hk : KeptBut g wr w5) (hg : labm g = 5) (hs : wr.heap.size = w5.heap.size) : Pm w0 w5 lab labm d mb fv tv Y := by
  have k1 := KeptL.of_but (lab := labm) (A := fun x => 5 ≤ x ∧ x ≤ 9) hk (by rw [hg]; omega)
  exact ⟨⟨h.md.b.keptL k1 (by rw [h.md.lb]; omega), h.md.lb, h.md.wd.keptS k1 (fun x hx => hx)⟩, fun b hb => h.s1 b (by omega), fun b hb => h.s2 b (by omega), h.z⟩
/-- What the model's blocks are to the desk. -/
theorem Pm.kept (h : Pm w0 wr lab labm d mb fv tv Y) (hdl : d < wr.heap.size) (hk : KeptL labm mdL wr w5) : KeptL lab (fun x => x = 1) wr w5 ∧ w5.heap[d]? = wr.heap[d]? := by
  refine ⟨⟨hk.os, hk.tape, hk.output, hk.size, fun k hk1 hn => hk.block k hk1 (fun hm => hn (h.s2 k hk1 hm.1 hm.2).1)⟩, hk.block d hdl (fun hm => (h.s2 d hdl hm.1 hm.2).2 rfl)⟩
/-- A step of the model leaves the desk. -/
theorem Pm.model {labm5 : Nat → Nat} {fv5 tv5 : Value} {Y5 : Option MW} (h : Pm w0 wr lab labm d mb fv tv Y) (hP : Play w0 wr lab d i m D) (hmd : MdAt w5 labm5 mb fv5 tv5 Y5) (hl : ∀ k, k < wr.heap.size → labm5 k = labm k) (hk : KeptL labm mdL wr w5) : ∃ lab5, (∀ b, b < wr.heap.size → lab5 b = lab b) ∧ Play w0 w5 lab5 d i m D ∧ Pm w0 w5 lab5 labm5 d mb fv5 tv5 Y5 := by
  have hdl := hP.dk.b.lt
  obtain ⟨k1, k2⟩ := h.kept hdl hk
  have hud : ∀ b, b < wr.heap.size → (fun b => if b < wr.heap.size then lab b else if 1 ≤ labm5 b ∧ labm5 b ≤ 9 then 1 else 0) b = lab b := fun b hb => if_pos hb
  have hun : ∀ b, wr.heap.size ≤ b → (fun b => if b < wr.heap.size then lab b else if 1 ≤ labm5 b ∧ labm5 b ≤ 9 then 1 else 0) b = if 1 ≤ labm5 b ∧ labm5 b ≤ 9 then 1 else 0 := fun b hb => if_neg (by omega)
  generalize (fun b => if b < wr.heap.size then lab b else if 1 ≤ labm5 b ∧ labm5 b ≤ 9 then 1 else 0) = lb at hud hun
  have k3 : KeptL lb (fun x => x = 1) wr w5 := ⟨k1.os, k1.tape, k1.output, k1.size, fun k hk1 hn => k1.block k hk1 (by rw [← hud k hk1]; exact hn)⟩
  have hs := hP.bl.size
  refine ⟨lb, hud, ⟨(hP.dk.relab hud).keptM k3 k2, ⟨by rw [hk.os, hP.bl.os], by rw [hk.tape, hP.bl.tape], by rw [hk.output, hP.bl.output], by have := hk.size; omega, fun j hj => ?_⟩, fun j hj => (hud j (by omega)).trans (hP.l0 j hj), hP.wb⟩, hmd, fun b hb h1 h2 => ?_, fun b hb h1 h2 => ?_, fun b hb => (hl b (by omega)).trans (h.z b hb)⟩
  · rw [hk.block j (by omega) (by rw [h.z j hj]; unfold mdL; omega), hP.bl.block j hj]
  · by_cases hc : b < wr.heap.size
    · rw [hud b hc] at h1 h2
      rw [hl b hc]
      exact h.s1 b hc h1 h2
    · rw [hun b (by omega)] at h1 h2
      split at h1
      · rename_i hx
        exact hx
      · omega
  · by_cases hc : b < wr.heap.size
    · rw [hl b hc] at h1 h2
      rw [hud b hc]
      exact h.s2 b hc h1 h2
    · rw [hun b (by omega), if_pos ⟨h1, by omega⟩]
      exact ⟨rfl, by omega⟩
end
end Go.Proofs.Qxb6500716a
