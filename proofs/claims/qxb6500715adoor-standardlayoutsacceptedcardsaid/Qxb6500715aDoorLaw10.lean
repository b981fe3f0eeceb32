/-
  StandardLayoutsAccepted: the walk.
-/
import Derived.Test.Qxb6500715aDoorStand
import Derived.Test.Qxb6500715aDoorWell
import Derived.Test.Qxb6500715aDoorEqual
namespace Go.Proofs.Qxb6500715aDoor
open Go.RowKit
set_option linter.unusedSimpArgs false
set_option linter.unusedVariables false

theorem sumF_congr {f g : Nat → Int} (k : Nat) (h : ∀ i, i < k → f i = g i) : sumF f k = sumF g k := by
  induction k with
  | zero => rfl
  | succ k ih => simp only [sumF]; rw [ih fun i hi => h i (by omega), h k (by omega)]

def bytes0 (A S P D r c : Int) (n : Nat) (px py : Nat → Int) (j : Nat) : Int :=
  if j = 0 then 70 else if j = 1 then 1 else if j = 2 then A else if j = 3 then S else if j = 4 then P else if j = 5 then D else if j = 6 then r else if j = 7 then c else if j = 8 then n
  else if j < 9 + 2 * n then (if (j - 9) % 2 = 0 then px ((j - 9) / 2) else py ((j - 9) / 2)) else 0

/-- A layout's bytes. -/
def bytesOf (A S P D r c : Int) (n : Nat) (px py : Nat → Int) (j : Nat) : Int :=
  if j = 9 + 2 * n then sumF (bytes0 A S P D r c n px py) (9 + 2 * n) else bytes0 A S P D r c n px py j

structure Bytes (A S P D r c : Int) (n : Nat) (px py : Nat → Int) (g : Nat → Int) : Prop where
  e0 : g 0 = 70
  e1 : g 1 = 1
  e2 : g 2 = A
  e3 : g 3 = S
  e4 : g 4 = P
  e5 : g 5 = D
  e6 : g 6 = r
  e7 : g 7 = c
  e8 : g 8 = n
  ex : ∀ i, i < n → g (9 + 2 * i) = px i
  ey : ∀ i, i < n → g (10 + 2 * i) = py i
  es : g (9 + 2 * n) = sumF g (9 + 2 * n)
  hr : ∀ i, 0 ≤ g i ∧ g i < 256
  ok : decOk g (10 + 2 * n)

theorem bytes_of (A S P D r c : Int) (n : Nat) (px py : Nat → Int) (h : layOk A S P D r c n px py) : Bytes A S P D r c n px py (bytesOf A S P D r c n px py) := by
  have hlo : ∀ j, j < 9 + 2 * n → bytesOf A S P D r c n px py j = bytes0 A S P D r c n px py j := fun j hj => by
    simp only [bytesOf]; rw [if_neg (by omega)]
  have hx : ∀ i, i < n → bytesOf A S P D r c n px py (9 + 2 * i) = px i := fun i hi => by
    rw [hlo _ (by omega)]
    simp only [bytes0]
    repeat rw [if_neg (by omega)]
    rw [if_pos (by omega), if_pos (by omega), show (9 + 2 * i - 9) / 2 = i by omega]
  have hy : ∀ i, i < n → bytesOf A S P D r c n px py (10 + 2 * i) = py i := fun i hi => by
    rw [hlo _ (by omega)]
    simp only [bytes0]
    iterate 9 rw [if_neg (by omega)]
    rw [if_pos (by omega), if_neg (by omega), show (10 + 2 * i - 9) / 2 = i by omega]
  have hs : bytesOf A S P D r c n px py (9 + 2 * n) = sumF (bytesOf A S P D r c n px py) (9 + 2 * n) := by
    rw [sumF_congr _ hlo]; simp [bytesOf]
  obtain ⟨hn, hA, hS, hP, hD, hr, hc, hpk⟩ := h
  have hcb : c ≤ 30 := by rcases (by omega : P = 2 ∨ P = 3) with rfl | rfl <;> omega
  have hrange : ∀ i, 0 ≤ bytesOf A S P D r c n px py i ∧ bytesOf A S P D r c n px py i < 256 := fun i => by
    by_cases hi : i = 9 + 2 * n
    · subst hi; rw [hs]; exact sumF_range _ _
    · by_cases hi2 : i < 9
      · rw [hlo _ (by omega)]
        rcases (by omega : i = 0 ∨ i = 1 ∨ i = 2 ∨ i = 3 ∨ i = 4 ∨ i = 5 ∨ i = 6 ∨ i = 7 ∨ i = 8) with rfl | rfl | rfl | rfl | rfl | rfl | rfl | rfl | rfl <;> simp [bytes0] <;> omega
      · by_cases hi3 : i < 9 + 2 * n
        · have hap : ∀ j, j < n → (0 ≤ px j ∧ px j < 256) ∧ (0 ≤ py j ∧ py j < 256) := fun j hj => by
            have := hpk.1 j hj
            simp only [onApron, inGrid, Bool.and_eq_true, Bool.or_eq_true, beq_iff_eq, decide_eq_true_eq] at this
            rcases (by omega : P = 2 ∨ P = 3) with rfl | rfl <;> omega
          rcases (by omega : (i - 9) % 2 = 0 ∨ (i - 9) % 2 = 1) with he | he
          · obtain ⟨j, rfl⟩ : ∃ j, i = 9 + 2 * j := ⟨(i - 9) / 2, by omega⟩
            rw [hx j (by omega)]; exact (hap j (by omega)).1
          · obtain ⟨j, rfl⟩ : ∃ j, i = 10 + 2 * j := ⟨(i - 9) / 2, by omega⟩
            rw [hy j (by omega)]; exact (hap j (by omega)).2
        · simp only [bytesOf, bytes0]
          iterate 11 rw [if_neg (by omega)]
          omega
  have f : ∀ j, j < 9 → bytesOf A S P D r c n px py j = bytes0 A S P D r c n px py j := fun j hj => hlo j (by omega)
  have e0 : bytesOf A S P D r c n px py 0 = 70 := by rw [f 0 (by omega)]; simp [bytes0]
  have e1 : bytesOf A S P D r c n px py 1 = 1 := by rw [f 1 (by omega)]; simp [bytes0]
  have e2 : bytesOf A S P D r c n px py 2 = A := by rw [f 2 (by omega)]; simp [bytes0]
  have e3 : bytesOf A S P D r c n px py 3 = S := by rw [f 3 (by omega)]; simp [bytes0]
  have e4 : bytesOf A S P D r c n px py 4 = P := by rw [f 4 (by omega)]; simp [bytes0]
  have e5 : bytesOf A S P D r c n px py 5 = D := by rw [f 5 (by omega)]; simp [bytes0]
  have e6 : bytesOf A S P D r c n px py 6 = r := by rw [f 6 (by omega)]; simp [bytes0]
  have e7 : bytesOf A S P D r c n px py 7 = c := by rw [f 7 (by omega)]; simp [bytes0]
  have e8 : bytesOf A S P D r c n px py 8 = n := by rw [f 8 (by omega)]; simp [bytes0]
  refine ⟨e0, e1, e2, e3, e4, e5, e6, e7, e8, hx, hy, hs, hrange, ⟨by omega, e0, e1, by rw [e8]; omega, by rw [e8]; omega, ?_⟩, ?_⟩
  · rw [show 10 + 2 * n - 1 = 9 + 2 * n by omega]; exact hs.symm
  · rw [e2, e3, e4, e5, e6, e7, e8, Int.toNat_natCast]
    refine ⟨hn, hA, hS, hP, hD, hr, hc, fun i hi => ?_, fun i j hj hi => ?_⟩
    · show onApron A S P (bytesOf A S P D r c n px py (9 + 2 * i)) (bytesOf A S P D r c n px py (10 + 2 * i)) = true
      rw [hx i hi, hy i hi]; exact hpk.1 i hi
    · show ¬ (bytesOf A S P D r c n px py (9 + 2 * j) = bytesOf A S P D r c n px py (9 + 2 * i) ∧ bytesOf A S P D r c n px py (10 + 2 * j) = bytesOf A S P D r c n px py (10 + 2 * i))
      rw [hx i hi, hy i hi, hx j (by omega), hy j (by omega)]; exact hpk.2 i j hj hi
end Go.Proofs.Qxb6500715aDoor
