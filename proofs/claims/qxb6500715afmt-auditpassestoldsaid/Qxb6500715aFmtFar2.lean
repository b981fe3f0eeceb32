/-
  The closed form on places: it steps by one, and it falls toward its source.
-/
import Derived.Test.Qxb6500715aFmtFar
namespace Go.Proofs.Qxb6500715aFmt
open Go.RowKit
set_option linter.unusedSimpArgs false
set_option linter.unusedVariables false

/-- On a cross aisle. -/
abbrev isX (S r : Nat) : Prop := r = 1 ∨ r = S + 2
/-- A place on the aisles. -/
def onA (A P S r q : Nat) : Prop := q < (A - 1) * P + 3 ∧ (r = 1 ∨ r = S + 2 ∨ (2 ≤ r ∧ r ≤ S + 1 ∧ isAc A P q))

/-- The least number of moves between two places on the aisles. -/
def ad (A P S r1 q1 r2 q2 : Nat) : Nat :=
  if q1 = q2 ∧ ¬ (isX S r1 ∧ isX S r2) then nab r1 r2
  else if isX S r1 ∧ isX S r2 then (if r1 = r2 then nab q1 q2 else nab r1 r2 + cX A P q1 q2)
  else if isX S r1 ∨ isX S r2 then nab r1 r2 + nab q1 q2
  else nab q1 q2 + min (r1 - 1 + (r2 - 1)) (S + 2 - r1 + (S + 2 - r2))

/-- One move apart. -/
def one (r q r' q' : Nat) : Prop := (r = r' ∧ (q' = q + 1 ∨ q = q' + 1)) ∨ (q = q' ∧ (r' = r + 1 ∨ r = r' + 1))

theorem cX_tri (A P c1 c2 : Nat) : nab c1 c2 ≤ cX A P c1 c2 := by
  unfold cX nab; omega
theorem cX_at {A P c1 c2 : Nat} (hP : 2 ≤ P) (hA : 1 ≤ A) (h1 : c1 < (A - 1) * P + 3) : ∃ x, isAc A P x ∧ cX A P c1 c2 = nab c1 x + nab c2 x :=
  ⟨_, cCol_isA hA (by omega), rfl⟩
theorem isAc_lt {A P x : Nat} (h : isAc A P x) : 1 ≤ x ∧ x + 2 ≤ (A - 1) * P + 3 := by
  obtain ⟨al, h1, rfl⟩ := h
  have := Nat.mul_le_mul_right P (show al ≤ A - 1 by omega)
  omega
theorem cX_comm (A P c1 c2 : Nat) : cX A P c1 c2 = cX A P c2 c1 := by
  unfold cX; rw [Nat.min_comm, Nat.max_comm, Nat.add_comm]
theorem nab_comm (x y : Nat) : nab x y = nab y x := by unfold nab; omega
theorem ad_comm (A P S r1 q1 r2 q2 : Nat) : ad A P S r1 q1 r2 q2 = ad A P S r2 q2 r1 q1 := by
  unfold ad
  rw [cX_comm, nab_comm r1, nab_comm q1]
  have e0 : q1 = q2 ↔ q2 = q1 := by omega
  have e2 : (isX S r1 ∧ isX S r2) ↔ (isX S r2 ∧ isX S r1) := by omega
  have e3 : (isX S r1 ∨ isX S r2) ↔ (isX S r2 ∨ isX S r1) := by omega
  have e4 : r1 = r2 ↔ r2 = r1 := by omega
  simp only [e2, e3]
  rw [Nat.add_comm (r1 - 1), Nat.add_comm (S + 2 - r1)]
  simp only [e0, e4]

section
variable {A P S r1 q1 r2 q2 r3 q3 : Nat}

theorem onA.ac {r q : Nat} (h : onA A P S r q) (hx : ¬ isX S r) : isAc A P q := by
  rcases h.2 with h | h | h
  · exact absurd (Or.inl h) hx
  · exact absurd (Or.inr h) hx
  · exact h.2.2
/-! the five cases -/
theorem ad_same (h1 : isX S r1) (h2 : r2 = r1) : ad A P S r1 q1 r2 q2 = nab q1 q2 := by
  subst h2
  rw [ad, if_neg (fun h => h.2 ⟨h1, h1⟩), if_pos ⟨h1, h1⟩, if_pos rfl]
theorem ad_diff (h1 : isX S r1) (h2 : isX S r2) (h : r1 ≠ r2) : ad A P S r1 q1 r2 q2 = nab r1 r2 + cX A P q1 q2 := by
  rw [ad, if_neg (fun h => h.2 ⟨h1, h2⟩), if_pos ⟨h1, h2⟩, if_neg h]
theorem ad_xi (h1 : isX S r1) (h2 : ¬ isX S r2) : ad A P S r1 q1 r2 q2 = nab r1 r2 + nab q1 q2 := by
  by_cases h : q1 = q2
  · rw [ad, if_pos ⟨h, fun h => h2 h.2⟩, h]; simp [nab]
  · rw [ad, if_neg (fun h' => h h'.1), if_neg (fun h => h2 h.2), if_pos (Or.inl h1)]
theorem ad_ix (h1 : ¬ isX S r1) (h2 : isX S r2) : ad A P S r1 q1 r2 q2 = nab r1 r2 + nab q1 q2 := by
  rw [ad_comm, ad_xi h2 h1, nab_comm, nab_comm q2]
theorem ad_iis (h1 : ¬ isX S r1) (h2 : ¬ isX S r2) (h : q1 = q2) : ad A P S r1 q1 r2 q2 = nab r1 r2 := by
  rw [ad, if_pos ⟨h, fun h => h2 h.2⟩]
theorem ad_iid (h1 : ¬ isX S r1) (h2 : ¬ isX S r2) (h : q1 ≠ q2) : ad A P S r1 q1 r2 q2 = nab q1 q2 + min (r1 - 1 + (r2 - 1)) (S + 2 - r1 + (S + 2 - r2)) := by
  rw [ad, if_neg (fun h' => h h'.1), if_neg (fun h => h2 h.2), if_neg (fun h => h.elim h1 h2)]
theorem ad_self (A P S r q : Nat) : ad A P S r q r q = 0 := by
  by_cases h : isX S r
  · rw [ad_same h rfl]; simp [nab]
  · rw [ad_iis h h rfl]; simp [nab]
theorem cX_is (hP : 2 ≤ P) (h : isAc A P q2) : cX A P q1 q2 = nab q1 q2 := by
  have h1 := cX_le (c1 := q1) (c2 := q2) hP h
  have h2 := cX_tri A P q1 q2
  unfold nab at h1 h2 ⊢; omega

set_option maxHeartbeats 2000000 in
theorem ad_lips (hP : 2 ≤ P) (hA : 1 ≤ A) (hS : 1 ≤ S) (h1 : onA A P S r1 q1) (h2 : onA A P S r2 q2) (h3 : onA A P S r3 q3) (h : one r2 q2 r3 q3) : ad A P S r1 q1 r3 q3 ≤ ad A P S r1 q1 r2 q2 + 1 := by
  have l3 : cX A P q1 q3 ≤ cX A P q1 q2 + nab q2 q3 := by
    obtain ⟨x2, hx2, e2⟩ := cX_at (c2 := q2) hP hA h1.1
    have := cX_le (c1 := q1) (c2 := q3) hP hx2
    rw [e2]; unfold nab at this ⊢; omega
  have H1 := h1
  have H2 := h2
  have H3 := h3
  obtain ⟨h1a, h1b⟩ := h1
  obtain ⟨h2a, h2b⟩ := h2
  obtain ⟨h3a, h3b⟩ := h3
  unfold one at h
  by_cases x1 : isX S r1 <;> by_cases x2 : isX S r2 <;> by_cases x3 : isX S r3
  · -- all three on cross aisles: q moves
    obtain ⟨rfl, hq⟩ : r2 = r3 ∧ (q3 = q2 + 1 ∨ q2 = q3 + 1) := by omega
    by_cases h12 : r1 = r2
    · rw [ad_same x1 h12.symm, ad_same x1 h12.symm]; unfold nab; omega
    · rw [ad_diff x1 x2 h12, ad_diff x1 x2 h12]; unfold nab at *; omega
  · -- into an aisle
    have ha : isAc A P q3 := H3.ac x3
    have hq : q2 = q3 := by omega
    subst hq
    rw [ad_xi x1 x3]
    by_cases h12 : r1 = r2
    · rw [ad_same x1 h12.symm]; unfold nab; omega
    · rw [ad_diff x1 x2 h12, cX_is hP ha]; unfold nab; omega
  · have ha : isAc A P q2 := H2.ac x2
    have hq : q2 = q3 := by omega
    subst hq
    rw [ad_xi x1 x2]
    by_cases h13 : r1 = r3
    · rw [ad_same x1 h13.symm]; unfold nab; omega
    · rw [ad_diff x1 x3 h13, cX_is hP ha]; unfold nab; omega
  · rw [ad_xi x1 x2, ad_xi x1 x3]; unfold nab; omega
  · rw [ad_ix x1 x2, ad_ix x1 x3]; unfold nab; omega
  · rw [ad_ix x1 x2]
    by_cases h13 : q1 = q3
    · rw [ad_iis x1 x3 h13]; unfold nab; omega
    · rw [ad_iid x1 x3 h13]; unfold nab; omega
  · rw [ad_ix x1 x3]
    by_cases h12 : q1 = q2
    · rw [ad_iis x1 x2 h12]; unfold nab; omega
    · rw [ad_iid x1 x2 h12]; unfold nab; omega
  · have hq : q2 = q3 := by
      have a2 := H2.ac x2
      have a3 := H3.ac x3
      obtain ⟨x, hx, e⟩ := a2
      obtain ⟨y, hy, e'⟩ := a3
      rcases h with ⟨_, hh⟩ | ⟨hh, _⟩
      · exfalso
        rcases hh with hh | hh
        · have : y * P = x * P + 1 := by omega
          have := congrArg (· % P) this
          simp [Nat.mul_mod_left, Nat.add_mod] at this
          omega
        · have : x * P = y * P + 1 := by omega
          have := congrArg (· % P) this
          simp [Nat.mul_mod_left, Nat.add_mod] at this
          omega
      · exact hh
    subst hq
    by_cases h12 : q1 = q2
    · rw [ad_iis x1 x2 h12, ad_iis x1 x3 h12]; unfold nab; omega
    · rw [ad_iid x1 x2 h12, ad_iid x1 x3 h12]; unfold nab; omega

set_option maxHeartbeats 2000000 in
theorem ad_falls (hP : 2 ≤ P) (hA : 1 ≤ A) (hS : 1 ≤ S) (h1 : onA A P S r1 q1) (h2 : onA A P S r2 q2) (hne : ¬ (r1 = r2 ∧ q1 = q2)) : ∃ r3 q3, onA A P S r3 q3 ∧ one r2 q2 r3 q3 ∧ ad A P S r1 q1 r3 q3 + 1 ≤ ad A P S r1 q1 r2 q2 := by
  have H1 := h1
  have H2 := h2
  obtain ⟨h1a, h1b⟩ := h1
  obtain ⟨h2a, h2b⟩ := h2
  -- a step along the row toward column t
  have along : isX S r2 → ∀ t, t < (A - 1) * P + 3 → t ≠ q2 → ∃ q3, onA A P S r2 q3 ∧ one r2 q2 r2 q3 ∧ nab q3 t + 1 = nab q2 t ∧ nab q2 q3 = 1 := fun hx t ht hq => by
    by_cases h : t < q2
    · exact ⟨q2 - 1, ⟨by omega, by omega⟩, Or.inl ⟨rfl, by omega⟩, by unfold nab; omega, by unfold nab; omega⟩
    · exact ⟨q2 + 1, ⟨by omega, by omega⟩, Or.inl ⟨rfl, by omega⟩, by unfold nab; omega, by unfold nab; omega⟩
  -- steps along an aisle
  have up : isAc A P q2 → 2 ≤ r2 → r2 ≤ S + 2 → onA A P S (r2 - 1) q2 ∧ one r2 q2 (r2 - 1) q2 := fun ha g1 g2 => ⟨⟨h2a, by
    by_cases h : r2 = 2
    · left; omega
    · right; right; exact ⟨by omega, by omega, ha⟩⟩, Or.inr ⟨rfl, by omega⟩⟩
  have down : isAc A P q2 → 1 ≤ r2 → r2 ≤ S + 1 → onA A P S (r2 + 1) q2 ∧ one r2 q2 (r2 + 1) q2 := fun ha g1 g2 => ⟨⟨h2a, by
    by_cases h : r2 = S + 1
    · right; left; omega
    · right; right; exact ⟨by omega, by omega, ha⟩⟩, Or.inr ⟨rfl, by omega⟩⟩
  by_cases x1 : isX S r1 <;> by_cases x2 : isX S r2
  · by_cases h12 : r1 = r2
    · obtain ⟨q3, o, n, e, -⟩ := along x2 q1 h1a (by omega)
      refine ⟨r2, q3, o, n, ?_⟩
      rw [ad_same x1 h12.symm, ad_same x1 h12.symm, nab_comm q1, nab_comm q1]; omega
    · rw [ad_diff x1 x2 h12]
      obtain ⟨x, hx, ex⟩ := cX_at (c2 := q2) hP hA h1a
      have hxl := isAc_lt hx
      by_cases hq : x = q2
      · subst hq
        rw [ex]
        by_cases hr : r1 < r2
        · obtain ⟨o, n⟩ := up hx (by omega) (by omega)
          refine ⟨r2 - 1, x, o, n, ?_⟩
          by_cases x3 : isX S (r2 - 1)
          · omega
          · rw [ad_xi x1 x3]; unfold nab; omega
        · obtain ⟨o, n⟩ := down hx (by omega) (by omega)
          refine ⟨r2 + 1, x, o, n, ?_⟩
          by_cases x3 : isX S (r2 + 1)
          · omega
          · rw [ad_xi x1 x3]; unfold nab; omega
      · obtain ⟨q3, o, n, e, -⟩ := along x2 x (by omega) hq
        refine ⟨r2, q3, o, n, ?_⟩
        rw [ad_diff x1 x2 h12]
        have := cX_le (c1 := q1) (c2 := q3) hP hx
        omega
  · have ha : isAc A P q2 := H2.ac x2
    rw [ad_xi x1 x2]
    by_cases hr : r1 < r2
    · obtain ⟨o, n⟩ := up ha (by omega) (by omega)
      refine ⟨r2 - 1, q2, o, n, ?_⟩
      by_cases x3 : isX S (r2 - 1)
      · rw [ad_same x1 (by omega)]; unfold nab; omega
      · rw [ad_xi x1 x3]; unfold nab; omega
    · obtain ⟨o, n⟩ := down ha (by omega) (by omega)
      refine ⟨r2 + 1, q2, o, n, ?_⟩
      by_cases x3 : isX S (r2 + 1)
      · rw [ad_same x1 (by omega)]; unfold nab; omega
      · rw [ad_xi x1 x3]; unfold nab; omega
  · have ha : isAc A P q1 := H1.ac x1
    rw [ad_ix x1 x2]
    by_cases hq : q1 = q2
    · subst hq
      by_cases hr : r1 < r2
      · obtain ⟨o, n⟩ := up ha (by omega) (by omega)
        refine ⟨r2 - 1, q1, o, n, ?_⟩
        by_cases x3 : isX S (r2 - 1)
        · omega
        · rw [ad_iis x1 x3 rfl]; unfold nab; omega
      · obtain ⟨o, n⟩ := down ha (by omega) (by omega)
        refine ⟨r2 + 1, q1, o, n, ?_⟩
        by_cases x3 : isX S (r2 + 1)
        · omega
        · rw [ad_iis x1 x3 rfl]; unfold nab; omega
    · obtain ⟨q3, o, n, e, -⟩ := along x2 q1 h1a hq
      refine ⟨r2, q3, o, n, ?_⟩
      rw [ad_ix x1 x2, nab_comm q1, nab_comm q1]; omega
  · have ha : isAc A P q2 := H2.ac x2
    by_cases hq : q1 = q2
    · rw [ad_iis x1 x2 hq]
      by_cases hr : r1 < r2
      · obtain ⟨o, n⟩ := up ha (by omega) (by omega)
        refine ⟨r2 - 1, q2, o, n, ?_⟩
        by_cases x3 : isX S (r2 - 1)
        · omega
        · rw [ad_iis x1 x3 hq]; unfold nab; omega
      · obtain ⟨o, n⟩ := down ha (by omega) (by omega)
        refine ⟨r2 + 1, q2, o, n, ?_⟩
        by_cases x3 : isX S (r2 + 1)
        · omega
        · rw [ad_iis x1 x3 hq]; unfold nab; omega
    · rw [ad_iid x1 x2 hq]
      by_cases hv : r1 - 1 + (r2 - 1) ≤ S + 2 - r1 + (S + 2 - r2)
      · obtain ⟨o, n⟩ := up ha (by omega) (by omega)
        refine ⟨r2 - 1, q2, o, n, ?_⟩
        by_cases x3 : isX S (r2 - 1)
        · rw [ad_ix x1 x3]; unfold nab; omega
        · rw [ad_iid x1 x3 hq]; omega
      · obtain ⟨o, n⟩ := down ha (by omega) (by omega)
        refine ⟨r2 + 1, q2, o, n, ?_⟩
        by_cases x3 : isX S (r2 + 1)
        · rw [ad_ix x1 x3]; unfold nab; omega
        · rw [ad_iid x1 x3 hq]; omega
end
end Go.Proofs.Qxb6500715aFmt
