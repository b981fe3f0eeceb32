/-
  The painted grid, plain: what stands at a place of the floor of a layout.
-/
import Derived.WalkKit
namespace Go.Proofs.Qxb6500715aFmt
set_option linter.unusedVariables false

/-- Does a bay lie at a place? -/
def isBay (n : Nat) (px py : Nat → Nat) (r c : Nat) : Bool := (List.range n).any fun i => px i == r && py i == c
theorem isBay_iff (n : Nat) (px py : Nat → Nat) (r c : Nat) : isBay n px py r c = true ↔ ∃ i, i < n ∧ px i = r ∧ py i = c := by
  simp [isBay]

theorem isBay_succ (n : Nat) (px py : Nat → Nat) (r c : Nat) : isBay (n + 1) px py r c = (isBay n px py r c || (px n == r && py n == c)) := by
  simp [isBay, List.range_succ]

/-- The rows, before the aisles are cut. -/
def kind1 (S r : Nat) : Int := if r = 1 then 5 else if r = S + 2 then 6 else if 2 ≤ r ∧ r < S + 2 then 2 else 1

/-- The rows from 2 on, aisles before k cut, aisle k cut in the rows before j. -/
def kind2 (S P D k j r c : Nat) : Int :=
  if 2 ≤ r ∧ r < S + 2 then
    (if 1 ≤ c ∧ (c - 1) % P = 0 ∧ ((c - 1) / P < k ∨ ((c - 1) / P = k ∧ r < j)) then 4
     else if (c % P = 0 ∧ (c / P < k ∨ (c / P = k ∧ r < j))) ∨ (1 < D ∧ 2 ≤ c ∧ (c - 2) % P = 0 ∧ ((c - 2) / P < k ∨ ((c - 2) / P = k ∧ r < j))) then 3 else 2)
  else kind1 S r

/-- The whole floor. -/
def kind3 (A S P D n : Nat) (px py : Nat → Nat) (r c : Nat) : Int := if isBay n px py r c then 7 else kind2 S P D A 2 r c

theorem kind2_start (S P D r c : Nat) (hP : P = 2 ∨ P = 3) : kind2 S P D 0 2 r c = kind1 S r := by
  simp only [kind2]
  by_cases h : 2 ≤ r ∧ r < S + 2
  · rcases hP with rfl | rfl
    · rw [if_pos h, if_neg (by omega), if_neg (by omega)]
      simp only [kind1]
      rw [if_neg (by omega), if_neg (by omega), if_pos h]
    · rw [if_pos h, if_neg (by omega), if_neg (by omega)]
      simp only [kind1]
      rw [if_neg (by omega), if_neg (by omega), if_pos h]
  · rw [if_neg h]

theorem ite3 {p q p' q' : Prop} [Decidable p] [Decidable q] [Decidable p'] [Decidable q'] {x y z : Int} (hp : p ↔ p') (hq : q ↔ q') : (if p then x else if q then y else z) = if p' then x else if q' then y else z := by
  simp only [hp, hq]

theorem kind2_next (S P D k r c : Nat) (hP : P = 2 ∨ P = 3) : kind2 S P D k (S + 2) r c = kind2 S P D (k + 1) 2 r c := by
  simp only [kind2]
  by_cases h : 2 ≤ r ∧ r < S + 2
  · rw [if_pos h, if_pos h]
    rcases hP with rfl | rfl
    · exact ite3 (by omega) (by omega)
    · exact ite3 (by omega) (by omega)
  · rw [if_neg h, if_neg h]

/-- What one row of one aisle's cutting leaves. -/
theorem kind2_step (S P D k j r c : Nat) (hP : P = 2 ∨ P = 3) (hj : 2 ≤ j) (hj' : j < S + 2) :
    kind2 S P D k (j + 1) r c = if 1 < D ∧ r = j ∧ c = 1 + k * P + 1 then 3 else if r = j ∧ c = 1 + k * P - 1 then 3 else if r = j ∧ c = 1 + k * P then 4 else kind2 S P D k j r c := by
  by_cases h : 2 ≤ r ∧ r < S + 2
  · simp only [kind2, if_pos h]
    by_cases hr : r = j
    · subst hr
      by_cases c1 : c = 1 + k * P
      · rw [if_neg (c := 1 < D ∧ _) (by omega), if_neg (c := r = r ∧ c = 1 + k * P - 1) (by omega), if_pos (c := r = r ∧ c = 1 + k * P) ⟨rfl, c1⟩, if_pos]
        subst c1
        rcases hP with rfl | rfl <;> omega
      · by_cases c2 : c = 1 + k * P - 1
        · rw [if_neg (c := 1 < D ∧ _) (by omega), if_pos (c := r = r ∧ c = 1 + k * P - 1) ⟨rfl, c2⟩, if_neg, if_pos]
          · subst c2; left; rcases hP with rfl | rfl <;> omega
          · subst c2; rcases hP with rfl | rfl <;> omega
        · by_cases c3 : 1 < D ∧ c = 1 + k * P + 1
          · rw [if_pos (c := 1 < D ∧ _) ⟨c3.1, rfl, c3.2⟩, if_neg, if_pos]
            · right; rcases hP with rfl | rfl <;> omega
            · rcases hP with rfl | rfl <;> omega
          · rw [if_neg (c := 1 < D ∧ _) (fun h => c3 ⟨h.1, h.2.2⟩), if_neg (c := r = r ∧ c = 1 + k * P - 1) (fun h => c2 h.2), if_neg (c := r = r ∧ c = 1 + k * P) (fun h => c1 h.2)]
            rcases hP with rfl | rfl
            · exact ite3 (by omega) (by omega)
            · exact ite3 (by omega) (by omega)
    · rw [if_neg (c := 1 < D ∧ _) (fun h => hr h.2.1), if_neg (c := r = j ∧ c = 1 + k * P - 1) (fun h => hr h.1), if_neg (c := r = j ∧ c = 1 + k * P) (fun h => hr h.1)]
      have e : r < j + 1 ↔ r < j := by omega
      simp only [e]
  · simp only [kind2, if_neg h]
    rw [if_neg (by omega), if_neg (by omega), if_neg (by omega)]
end Go.Proofs.Qxb6500715aFmt
