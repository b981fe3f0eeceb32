/-
  The closed form of the distance, plain.
-/
import Derived.Test.Qxb6500715aFmtBay
namespace Go.Proofs.Qxb6500715aFmt
open Go.RowKit
set_option linter.unusedSimpArgs false
set_option linter.unusedVariables false

/-- The difference of two numbers. -/
def nab (x y : Nat) : Nat := (x - y) + (y - x)

/-- The first aisle at or to the right of a column. -/
def cR (P lo : Nat) : Nat := (lo + P - 2) / P
theorem cR_spec {P lo : Nat} (hP : 2 ≤ P) : cR P lo * P ≤ lo + P - 2 ∧ lo ≤ cR P lo * P + 1 := by
  have h1 : cR P lo * P ≤ lo + P - 2 := Nat.div_mul_le_self _ _
  have h2 : lo + P - 2 < (cR P lo + 1) * P := by
    have := Nat.lt_mul_div_succ (lo + P - 2) (show 0 < P by omega)
    rw [Nat.mul_comm] at this; exact this
  rw [Nat.add_mul, Nat.one_mul] at h2
  exact ⟨h1, by omega⟩

/-- The column through which to cross. -/
def cCol (A P lo hi : Nat) : Nat :=
  if cR P lo < A ∧ 1 + cR P lo * P ≤ hi then 1 + cR P lo * P
  else if cR P lo = 0 then 1 + cR P lo * P
  else if A ≤ cR P lo then 1 + (cR P lo - 1) * P
  else if lo - (1 + (cR P lo - 1) * P) ≤ (1 + cR P lo * P) - hi then 1 + (cR P lo - 1) * P
  else 1 + cR P lo * P

def isAc (A P x : Nat) : Prop := ∃ al, al < A ∧ x = 1 + al * P

theorem cCol_isA {A P lo hi : Nat} (hA : 1 ≤ A) : lo ≤ 1 + (A - 1) * P + 1 → isAc A P (cCol A P lo hi) := by
  intro hlo
  unfold cCol
  split
  · rename_i h; exact ⟨_, h.1, rfl⟩
  · split
    · rename_i h; exact ⟨0, by omega, by rw [h]⟩
    · split
      · rename_i h0 h1 h2
        refine ⟨cR P lo - 1, ?_, rfl⟩
        have h3 : cR P lo ≤ A := by
          unfold cR
          have : (lo + P - 2) / P ≤ (A * P) / P := Nat.div_le_div_right (by
            obtain ⟨k, rfl⟩ : ∃ k, A = k + 1 := ⟨A - 1, by omega⟩
            rw [Nat.add_mul, Nat.one_mul]
            simp at hlo
            omega)
          by_cases hP : P = 0
          · subst hP; simp
          · rwa [Nat.mul_div_cancel _ (by omega)] at this
        omega
      · split
        · exact ⟨cR P lo - 1, by omega, rfl⟩
        · exact ⟨cR P lo, by omega, rfl⟩

/-- The cost of the way across through the chosen column. -/
def cX (A P c1 c2 : Nat) : Nat := nab c1 (cCol A P (min c1 c2) (max c1 c2)) + nab c2 (cCol A P (min c1 c2) (max c1 c2))

theorem cX_le {A P c1 c2 x : Nat} (hP : 2 ≤ P) (hx : isAc A P x) : cX A P c1 c2 ≤ nab c1 x + nab c2 x := by
  obtain ⟨al, ha, rfl⟩ := hx
  unfold cX cCol
  obtain ⟨h1, h2⟩ := cR_spec (P := P) (lo := min c1 c2) hP
  generalize hr : cR P (min c1 c2) = r at *
  have hm : (r - 1) * P = r * P - P := by rw [Nat.sub_mul, Nat.one_mul]
  have hcase : (al < r ∧ al * P + P ≤ r * P) ∨ (r ≤ al ∧ r * P ≤ al * P) := by
    by_cases h : al < r
    · left; refine ⟨h, ?_⟩
      have := Nat.mul_le_mul_right P (show al + 1 ≤ r by omega)
      rwa [Nat.add_mul, Nat.one_mul] at this
    · right; exact ⟨by omega, Nat.mul_le_mul_right P (by omega)⟩
  have h0 : r = 0 → r * P = 0 := fun h => by rw [h, Nat.zero_mul]
  have h0' : r ≠ 0 → P ≤ r * P := fun h => by
    have := Nat.mul_le_mul_right P (show 1 ≤ r by omega)
    rwa [Nat.one_mul] at this
  rw [hm]
  generalize r * P = x at *
  generalize al * P = y at *
  unfold nab
  split
  · omega
  · split
    · have := h0 (by assumption); omega
    · have := h0' (by assumption)
      split
      · omega
      · split
        · omega
        · omega
end Go.Proofs.Qxb6500715aFmt
