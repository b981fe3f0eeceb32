/-
  What is written into the table.
-/
import Derived.Test.Qxb6500717aGreatSwap
namespace Go.Proofs.Qxb6500717aGreat
open Go.RowKit
set_option linter.unusedSimpArgs false
set_option linter.unusedVariables false

/-- Only blocks whose label A tells may have been written. -/
structure KeptL (lab : Nat → Nat) (A : Nat → Prop) (w w' : World) : Prop where
  os : w'.os = w.os
  tape : w'.tape = w.tape
  output : w'.output = w.output
  size : w.heap.size ≤ w'.heap.size
  block : ∀ k, k < w.heap.size → ¬ A (lab k) → w'.heap[k]? = w.heap[k]?

section
variable {lab : Nat → Nat} {A B : Nat → Prop} {w w1 w2 : World}
theorem KeptL.refl (lab : Nat → Nat) (A : Nat → Prop) (w : World) : KeptL lab A w w := ⟨rfl, rfl, rfl, Nat.le_refl _, fun _ _ _ => rfl⟩
theorem KeptL.trans (h : KeptL lab A w w1) (k : KeptL lab A w1 w2) : KeptL lab A w w2 :=
  ⟨k.os.trans h.os, k.tape.trans h.tape, k.output.trans h.output, Nat.le_trans h.size k.size, fun i hi hb => (k.block i (Nat.lt_of_lt_of_le hi h.size) hb).trans (h.block i hi hb)⟩
theorem KeptL.mono (h : KeptL lab A w w1) (hAB : ∀ x, A x → B x) : KeptL lab B w w1 := ⟨h.os, h.tape, h.output, h.size, fun k hk hb => h.block k hk (fun ha => hb (hAB _ ha))⟩
theorem KeptL.of_below (h : Below w.heap.size w w1) : KeptL lab A w w1 := ⟨h.os, h.tape, h.output, h.size, fun k hk _ => h.block k hk⟩
theorem KeptL.of_but {b : Nat} (h : KeptBut b w w1) (hb : A (lab b)) : KeptL lab A w w1 := ⟨h.os, h.tape, h.output, h.size, fun k hk hn => h.block k hk (fun e => hn (e ▸ hb))⟩
theorem KeptL.al (h : KeptL lab A w w1) (o : Obj) : KeptL lab A w (w1.alloc o) := h.trans (KeptL.of_below ((Below.rf w1).al o))
theorem KeptL.ex (h : KeptL lab A w w1) (z : World) : KeptL lab A w (w1.ext z) := h.trans (KeptL.of_below (World.below_ext w1 z))
theorem KeptL.drew (h : KeptL lab A w w1) : KeptL lab A w w1.drew := h.trans (KeptL.of_below (Below.rf w1).drew)
theorem KeptL.set (h : KeptL lab A w w1) {b i : Nat} (hb : A (lab b)) (v : Value) : KeptL lab A w (w1.setCell ⟨b, i, none⟩ v) :=
  h.trans (KeptL.of_but ((KeptBut.refl b w1).set (Or.inl rfl) v) hb)
theorem Blk.keptL {b n : Nat} {f : Nat → Value} (h : Blk w b n f) (hk : KeptL lab A w w1) (hne : ¬ A (lab b)) : Blk w1 b n f := h.of_block hk.size (hk.block b h.lt hne)
theorem SpAt.keptL {tag : Nat} {v : Value} {l : List (Nat × Nat × Nat)} (h : SpAt w lab tag v l) (hk : KeptL lab A w w1) (hne : ¬ A tag) : SpAt w1 lab tag v l :=
  h.of hk.size (fun b hlt hl => hk.block b hlt (by rw [hl]; exact hne))
end

/-- pl with c at robot r, slot s. -/
def upd2 (f : Nat → Nat → Int) (r s : Nat) (c : Int) : Nat → Nat → Int := fun r' s' => if r' = r ∧ s' = s then c else f r' s'

section
variable {w : World} {lab : Nat → Nat} {M : TabM} {T : TabS}
/-- A cell of a robot's plan is written. -/
theorem TAt.setP (h : TAt w lab M T) {r s : Nat} (hr : r < T.nr) (hs : s < 256) (c : Int) (hc : -1 ≤ c ∧ c < T.nc) : TAt (w.setCell ⟨M.pr r, s, none⟩ (.int .i16 c)) lab M { T with pl := upd2 T.pl r s c } := by
  have hl := h.lpr r hr
  have hk : KeptL lab (fun x => x = 10 + r) w (w.setCell ⟨M.pr r, s, none⟩ (.int .i16 c)) := (KeptL.refl lab _ w).set hl _
  have hnr := h.bd.nr
  refine ⟨{ h.bd with pl := fun r' s' hr' hs' => ?_ }, ?_, ?_, ?_, fun r' hr' => ?_, ?_, fun r' hr' => ?_, h.lt, h.lg, h.lp, h.ls, h.lpr⟩
  · show -1 ≤ upd2 T.pl r s c r' s' ∧ upd2 T.pl r s c r' s' < (T.nc : Int)
    unfold upd2
    split
    · exact hc
    · exact h.bd.pl r' s' hr' hs'
  · exact (h.bt.keptL hk (by rw [h.lt]; omega)).congr (fun i hi => rfl)
  · exact h.bg.keptL hk (by rw [h.lg]; omega)
  · exact h.bp.keptL hk (by rw [h.lp]; omega)
  · by_cases hrr : r' = r
    · subst hrr
      refine ((h.bpr r' hr').set s _ hs).congr (fun i hi => ?_)
      by_cases his : i = s
      · subst his; simp [upd, upd2]
      · simp [upd, upd2, his]
    · refine ((h.bpr r' hr').keptL hk (by rw [h.lpr r' hr']; omega)).congr (fun i hi => ?_)
      simp [upd2, hrr]
  · exact h.bs.keptL hk (by rw [h.ls]; omega)
  · exact (h.bsr r' hr').keptL hk (by omega)
/-- A cell of the grid is written. -/
theorem TAt.setG (h : TAt w lab M T) {i : Nat} (hi : i < 256 * T.nc) (x : Int) (hx : 0 ≤ x ∧ x ≤ T.nr) : TAt (w.setCell ⟨M.g, i, none⟩ (.int .i8 x)) lab M { T with gr := upd T.gr i x } := by
  have hk : KeptL lab (fun x => x = 7) w (w.setCell ⟨M.g, i, none⟩ (.int .i8 x)) := (KeptL.refl lab _ w).set h.lg _
  refine ⟨{ h.bd with gr := fun j hj => ?_ }, ?_, ?_, ?_, fun r' hr' => ?_, ?_, fun r' hr' => ?_, h.lt, h.lg, h.lp, h.ls, h.lpr⟩
  · show 0 ≤ upd T.gr i x j ∧ upd T.gr i x j ≤ (T.nr : Int)
    unfold upd
    split
    · exact hx
    · exact h.bd.gr j hj
  · exact (h.bt.keptL hk (by rw [h.lt]; omega)).congr (fun i hi => rfl)
  · refine (h.bg.set i _ hi).congr (fun j hj => ?_)
    by_cases hji : j = i
    · subst hji; simp [upd]
    · simp [upd, hji]
  · exact h.bp.keptL hk (by rw [h.lp]; omega)
  · exact (h.bpr r' hr').keptL hk (by rw [h.lpr r' hr']; omega)
  · exact h.bs.keptL hk (by rw [h.ls]; omega)
  · exact (h.bsr r' hr').keptL hk (by omega)
/-- The count is written. -/
theorem TAt.setH (h : TAt w lab M T) (n : Nat) (hn : n ≤ T.cap) : TAt (w.setCell ⟨M.t, 4, none⟩ (.int .i64 (n))) lab M { T with held := n } := by
  have hk : KeptL lab (fun x => x = 6) w (w.setCell ⟨M.t, 4, none⟩ (.int .i64 (n))) := (KeptL.refl lab _ w).set h.lt _
  refine ⟨{ h.bd with held := hn }, ?_, ?_, ?_, fun r' hr' => ?_, ?_, fun r' hr' => ?_, h.lt, h.lg, h.lp, h.ls, h.lpr⟩
  · refine (h.bt.set 4 _ (by omega)).congr (fun j hj => ?_)
    rcases (by omega : j = 0 ∨ j = 1 ∨ j = 2 ∨ j = 3 ∨ j = 4 ∨ j = 5 ∨ j = 6 ∨ j = 7) with rfl | rfl | rfl | rfl | rfl | rfl | rfl | rfl <;> simp [upd, tcell]
  · exact h.bg.keptL hk (by rw [h.lg]; omega)
  · exact h.bp.keptL hk (by rw [h.lp]; omega)
  · exact (h.bpr r' hr').keptL hk (by rw [h.lpr r' hr']; omega)
  · exact h.bs.keptL hk (by rw [h.ls]; omega)
  · exact (h.bsr r' hr').keptL hk (by omega)
/-- The base is written. -/
theorem TAt.setB (h : TAt w lab M T) (n : Nat) (hn : n ≤ 1073741824) : TAt (w.setCell ⟨M.t, 3, none⟩ (.int .i64 (n))) lab M { T with base := n } := by
  have hk : KeptL lab (fun x => x = 6) w (w.setCell ⟨M.t, 3, none⟩ (.int .i64 (n))) := (KeptL.refl lab _ w).set h.lt _
  refine ⟨{ h.bd with base := hn }, ?_, ?_, ?_, fun r' hr' => ?_, ?_, fun r' hr' => ?_, h.lt, h.lg, h.lp, h.ls, h.lpr⟩
  · refine (h.bt.set 3 _ (by omega)).congr (fun j hj => ?_)
    rcases (by omega : j = 0 ∨ j = 1 ∨ j = 2 ∨ j = 3 ∨ j = 4 ∨ j = 5 ∨ j = 6 ∨ j = 7) with rfl | rfl | rfl | rfl | rfl | rfl | rfl | rfl <;> simp [upd, tcell]
  · exact h.bg.keptL hk (by rw [h.lg]; omega)
  · exact h.bp.keptL hk (by rw [h.lp]; omega)
  · exact (h.bpr r' hr').keptL hk (by rw [h.lpr r' hr']; omega)
  · exact h.bs.keptL hk (by rw [h.ls]; omega)
  · exact (h.bsr r' hr').keptL hk (by omega)
end
end Go.Proofs.Qxb6500717aGreat
