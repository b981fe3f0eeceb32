/-
  All shortest ways (Floyd, Warshall), plain.
-/
import Derived.Test.Qxb6500716aTn
namespace Go.Proofs.Qxb6500716a
open Go.RowKit Go.Maps
set_option linter.unusedSimpArgs false
set_option linter.unusedVariables false
set_option maxRecDepth 20000
set_option maxHeartbeats 4000000

/-- The round by way of v. -/
def fw (v : Nat) (D : Nat → Nat → Nat) : Nat → Nat → Nat := fun a b => min (D a b) (D a v + D v b)
def fwN (D : Nat → Nat → Nat) : Nat → Nat → Nat → Nat
  | 0 => D
  | v + 1 => fw v (fwN D v)
/-- What holds of the distances all along. -/
structure Fwd (D0 D : Nat → Nat → Nat) : Prop where
  zero : ∀ a, D a a = 0
  pos : ∀ a b, a ≠ b → 0 < D a b
  one : ∀ a b, D a b = 1 ↔ D0 a b = 1
  le : ∀ a b, D a b ≤ D0 a b
theorem Fwd.init {D0 : Nat → Nat → Nat} (h0 : ∀ a, D0 a a = 0) (h1 : ∀ a b, a ≠ b → 0 < D0 a b) : Fwd D0 D0 := ⟨h0, h1, fun _ _ => Iff.rfl, fun _ _ => Nat.le_refl _⟩
theorem Fwd.step {D0 D : Nat → Nat → Nat} (h : Fwd D0 D) (v : Nat) : Fwd D0 (fw v D) := by
  refine ⟨fun a => ?_, fun a b hab => ?_, fun a b => ?_, fun a b => ?_⟩
  · have := h.zero a
    unfold fw
    omega
  · have h1 := h.pos a b hab
    unfold fw
    by_cases e : a = v
    · subst e; omega
    · have := h.pos a v e; omega
  · rw [← h.one a b]
    unfold fw
    by_cases e : a = v
    · subst e; have := h.zero a; omega
    · by_cases e2 : v = b
      · subst e2; have := h.zero v; omega
      · have h1 := h.pos a v e
        have h2 := h.pos v b e2
        by_cases e3 : a = b
        · subst e3; have := h.zero a; omega
        · have := h.pos a b e3; omega
  · have := h.le a b
    unfold fw
    omega
theorem Fwd.all {D0 : Nat → Nat → Nat} (h0 : ∀ a, D0 a a = 0) (h1 : ∀ a b, a ≠ b → 0 < D0 a b) : ∀ v, Fwd D0 (fwN D0 v)
  | 0 => Fwd.init h0 h1
  | v + 1 => (Fwd.all h0 h1 v).step v
/-- The way by v is never shorter, for all v seen. -/
theorem fwN_tri {D0 : Nat → Nat → Nat} (h0 : ∀ a, D0 a a = 0) (h1 : ∀ a b, a ≠ b → 0 < D0 a b) : ∀ k v, v < k → ∀ a b, fwN D0 k a b ≤ fwN D0 k a v + fwN D0 k v b := by
  intro k
  induction k with
  | zero => intro v h; omega
  | succ k ih =>
    intro v hv a b
    have hk := (Fwd.all h0 h1 k).zero k
    show fw k (fwN D0 k) a b ≤ fw k (fwN D0 k) a v + fw k (fwN D0 k) v b
    generalize fwN D0 k = E at *
    unfold fw
    by_cases e : v = k
    · subst e; omega
    · have i1 := ih v (by omega) a b
      have i2 := ih v (by omega) a k
      have i3 := ih v (by omega) k b
      have i4 := ih v (by omega) k k
      omega
/-- In round v the row and the column of v stay. -/
theorem fw_row {D0 : Nat → Nat → Nat} (h0 : ∀ a, D0 a a = 0) (h1 : ∀ a b, a ≠ b → 0 < D0 a b) (v a : Nat) : fw v (fwN D0 v) a v = fwN D0 v a v := by
  have := (Fwd.all h0 h1 v).zero v
  unfold fw
  omega
theorem fw_col {D0 : Nat → Nat → Nat} (h0 : ∀ a, D0 a a = 0) (h1 : ∀ a b, a ≠ b → 0 < D0 a b) (v b : Nat) : fw v (fwN D0 v) v b = fwN D0 v v b := by
  have := (Fwd.all h0 h1 v).zero v
  unfold fw
  omega
end Go.Proofs.Qxb6500716a
