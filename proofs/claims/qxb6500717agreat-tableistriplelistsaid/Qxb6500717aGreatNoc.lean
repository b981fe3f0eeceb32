/-
  No two robots on one cell at one tick, none that change places: plain.
-/
import Derived.Test.Qxb6500717aGreatUndo
namespace Go.Proofs.Qxb6500717aGreat
open Go.RowKit
set_option linter.unusedSimpArgs false
set_option linter.unusedVariables false

structure Noc (T : TabS) : Prop where
  one : ∀ r q (t : Nat), r < T.nr → q < T.nr → r ≠ q → T.base ≤ t → T.at r t ≠ -1 → T.at r t ≠ T.at q t
  swp : ∀ r q (t : Nat), r < T.nr → q < T.nr → r ≠ q → T.base ≤ t → T.at r t ≠ -1 → T.at r ((t + 1 : Nat) : Int) ≠ -1 → ¬ (T.at r t = T.at q ((t + 1 : Nat) : Int) ∧ T.at r ((t + 1 : Nat) : Int) = T.at q t)
  dsj : ∀ r (t : Nat), r < T.nr → T.base ≤ t → t < T.base + 256 → T.pl r (t % 256) ≠ -1 → spAt (T.sp r) t = -1

/-! spans -/
theorem spAt_nn (l : List (Nat × Nat × Nat)) (t : Int) : -1 ≤ spAt l t := by
  induction l with
  | nil => exact Int.le_refl _
  | cons x l ih => unfold spAt; split <;> omega
theorem spAt_none {l : List (Nat × Nat × Nat)} {t : Int} : spAt l t = -1 ↔ ∀ x, x ∈ l → ¬ ((x.2.1 : Int) ≤ t ∧ t < x.2.2) := by
  induction l with
  | nil => simp [spAt]
  | cons x l ih =>
    unfold spAt
    split
    · rename_i h
      constructor
      · intro h1; omega
      · intro h1; exact absurd h (h1 x (by simp))
    · rename_i h
      rw [ih]
      constructor
      · intro h1 y hy
        rcases List.mem_cons.1 hy with rfl | hy
        · exact h
        · exact h1 y hy
      · intro h1 y hy; exact h1 y (by simp [hy])
theorem spAt_some {l : List (Nat × Nat × Nat)} {t : Int} (h : spAt l t ≠ -1) : ∃ x, x ∈ l ∧ ((x.2.1 : Int) ≤ t ∧ t < x.2.2) ∧ spAt l t = (x.1 : Int) := by
  induction l with
  | nil => exact absurd rfl h
  | cons x l ih =>
    unfold spAt at h ⊢
    split
    · rename_i h1; exact ⟨x, by simp, h1, rfl⟩
    · rename_i h1
      rw [if_neg h1] at h
      obtain ⟨y, h2, h3, h4⟩ := ih h
      exact ⟨y, by simp [h2], h3, h4⟩
theorem spAt_mem {b : Nat} {l : List (Nat × Nat × Nat)} (ho : SOrd b l) {t : Int} {x : Nat × Nat × Nat} (hx : x ∈ l) (hc : (x.2.1 : Int) ≤ t ∧ t < x.2.2) : spAt l t = (x.1 : Int) := by
  induction l with
  | nil => cases hx
  | cons y l ih =>
    obtain ⟨h1, h2⟩ := ho
    have h3 := List.pairwise_cons.1 h2
    unfold spAt
    rcases List.mem_cons.1 hx with rfl | hx
    · rw [if_pos hc]
    · have h4 := h3.1 x hx
      have h5 := h1 y (by simp)
      rw [if_neg (by omega)]
      exact ih ⟨fun z hz => h1 z (by simp [hz]), h3.2⟩ hx
theorem spOn_iff {l : List (Nat × Nat × Nat)} {c : Nat} {t : Int} : spOn l c t = true ↔ ∃ x, x ∈ l ∧ x.1 = c ∧ (x.2.1 : Int) ≤ t ∧ t < x.2.2 := by
  induction l with
  | nil => simp [spOn]
  | cons x l ih =>
    unfold spOn
    split
    · rename_i h; exact ⟨fun _ => ⟨x, by simp, h⟩, fun _ => rfl⟩
    · rename_i h
      rw [ih]
      constructor
      · rintro ⟨y, h1, h2⟩; exact ⟨y, by simp [h1], h2⟩
      · rintro ⟨y, h1, h2⟩
        rcases List.mem_cons.1 h1 with rfl | h1
        · exact absurd h2 h
        · exact ⟨y, h1, h2⟩
theorem spOn_at {b : Nat} {l : List (Nat × Nat × Nat)} (ho : SOrd b l) {c : Nat} {t : Int} : spOn l c t = true ↔ spAt l t = (c : Int) := by
  rw [spOn_iff]
  constructor
  · rintro ⟨x, h1, h2, h3⟩
    rw [spAt_mem ho h1 h3, h2]
  · intro h
    obtain ⟨x, h1, h2, h3⟩ := spAt_some (l := l) (t := t) (by omega)
    exact ⟨x, h1, by omega, h2⟩
theorem TabS.spBy_spec (T : TabS) (c : Nat) (t : Int) : ∀ n k, (T.spBy c t k n = -1 ∧ ∀ j, k ≤ j → j < k + n → spOn (T.sp j) c t = false) ∨ ∃ j : Nat, k ≤ j ∧ j < k + n ∧ T.spBy c t k n = (j : Int) ∧ spOn (T.sp j) c t = true := by
  intro n
  induction n with
  | zero => intro k; exact Or.inl ⟨rfl, fun j h1 h2 => by omega⟩
  | succ n ih =>
    intro k
    unfold TabS.spBy
    split
    · rename_i h; exact Or.inr ⟨k, by omega, by omega, rfl, h⟩
    · rename_i h
      rcases ih (k + 1) with ⟨h1, h2⟩ | ⟨j, h1, h2, h3, h4⟩
      · refine Or.inl ⟨h1, fun j hj1 hj2 => ?_⟩
        by_cases e : j = k
        · subst e; simpa using h
        · exact h2 j (by omega) (by omega)
      · exact Or.inr ⟨j, by omega, by omega, h3, h4⟩

section
variable {T : TabS}
theorem TabS.at_old (ho : Ord T) {r : Nat} (hr : r < T.nr) {t : Int} (ht : t < T.base) : T.at r t = -1 := by
  unfold TabS.at
  rw [if_neg (fun h => by
    have := h.1
    simp only [TabS.win, Bool.and_eq_true, decide_eq_true_eq] at this
    omega)]
  rw [spAt_none]
  intro x hx h
  have := ((ho r hr).1 x hx).1
  omega
theorem TabS.at_win {r t : Nat} (h : T.base ≤ t ∧ t < T.base + 256) : T.at r t = if T.pl r (t % 256) ≠ -1 then T.pl r (t % 256) else spAt (T.sp r) t := by
  unfold TabS.at
  rw [TabS.win_of h]
  simp only [Int.toNat_natCast, true_and]
theorem TabS.win_no {t : Nat} (h : ¬ (T.base ≤ t ∧ t < T.base + 256)) : T.win t = false := by
  unfold TabS.win
  simp only [Bool.and_eq_false_iff, decide_eq_false_iff_not]
  omega
theorem TabS.at_out {r t : Nat} (h : ¬ (T.base ≤ t ∧ t < T.base + 256)) : T.at r t = spAt (T.sp r) t := by
  unfold TabS.at
  rw [TabS.win_no h, if_neg (fun h => by cases h.1)]
/-- Whoever holds a cell is on it. -/
theorem TabS.hold_at (hb : TBd T) (hc : Con T) (ho : Ord T) (hn : Noc T) {c t q : Nat} (hcn : c < T.nc) (ht : T.base ≤ t) (h : T.hold c t = (q : Int)) : q < T.nr ∧ T.at q t = (c : Int) := by
  by_cases hw : T.base ≤ t ∧ t < T.base + 256
  · have e : T.hold c t = if T.gr (t % 256 * T.nc + c) ≠ 0 then T.gr (t % 256 * T.nc + c) - 1 else T.spBy c t 0 T.nr := by
      unfold TabS.hold
      rw [TabS.win_of hw]
      simp only [Int.toNat_natCast, true_and]
    rw [e] at h
    split at h
    · have := hc.pg q (t % 256) c (Nat.mod_lt _ (by omega)) hcn (by omega)
      refine ⟨this.1, ?_⟩
      rw [TabS.at_win hw, this.2, if_pos (by omega)]
    · rcases T.spBy_spec c t T.nr 0 with ⟨h1, _⟩ | ⟨j, h1, h2, h3, h4⟩
      · omega
      · obtain rfl : j = q := by omega
        refine ⟨by omega, ?_⟩
        have h5 := (spOn_at (ho j (by omega))).1 h4
        rw [TabS.at_win hw]
        split
        · rename_i hp
          have := hn.dsj j t (by omega) ht hw.2 hp
          omega
        · exact h5
  · have e : T.hold c t = T.spBy c t 0 T.nr := by
      unfold TabS.hold
      rw [TabS.win_no hw, if_neg (fun h => by cases h.1)]
    rw [e] at h
    rcases T.spBy_spec c t T.nr 0 with ⟨h1, _⟩ | ⟨j, h1, h2, h3, h4⟩
    · omega
    · obtain rfl : j = q := by omega
      refine ⟨by omega, ?_⟩
      rw [TabS.at_out hw]
      exact (spOn_at (ho j (by omega))).1 h4
theorem TabS.hold_nn (hb : TBd T) {c t : Nat} (hcn : c < T.nc) : -1 ≤ T.hold c t := by
  unfold TabS.hold
  split
  · rename_i h
    have h1 : ((t : Int).toNat % 256) < 256 := Nat.mod_lt _ (by omega)
    have h2 : (t : Int).toNat % 256 * T.nc + c < 256 * T.nc := by
      have := Nat.mul_le_mul_right T.nc (show (t : Int).toNat % 256 + 1 ≤ 256 by omega)
      rw [Nat.add_mul] at this; omega
    have := (hb.gr _ h2).1
    omega
  · rcases T.spBy_spec c t T.nr 0 with ⟨h1, _⟩ | ⟨j, h1, h2, h3, h4⟩ <;> omega
/-- If none holds it none is on it. -/
theorem TabS.hold_no (hb : TBd T) (hc : Con T) (ho : Ord T) {c t r : Nat} (hcn : c < T.nc) (ht : T.base ≤ t) (h : T.hold c t = -1) (hr : r < T.nr) : T.at r t ≠ (c : Int) := by
  intro ha
  have hsp : spAt (T.sp r) t = (c : Int) → T.spBy c t 0 T.nr ≠ -1 := by
    intro h1 h2
    have h3 := (spOn_at (ho r hr)).2 h1
    rcases T.spBy_spec c t T.nr 0 with ⟨_, h4⟩ | ⟨j, h4, h5, h6, h7⟩
    · rw [h4 r (by omega) (by omega)] at h3; cases h3
    · omega
  by_cases hw : T.base ≤ t ∧ t < T.base + 256
  · have hf := TabS.hold_free hb hcn hw h
    rw [TabS.at_win hw] at ha
    split at ha
    · have := hc.gp r (t % 256) c hr (Nat.mod_lt _ (by omega)) ha
      rw [hf.1] at this
      omega
    · exact hsp ha hf.2
  · rw [TabS.at_out hw] at ha
    refine hsp ha ?_
    have e : T.hold c t = T.spBy c t 0 T.nr := by
      unfold TabS.hold
      rw [TabS.win_no hw, if_neg (fun h => by cases h.1)]
    rw [← e]; exact h
theorem TabS.at_hold (hb : TBd T) (hc : Con T) (ho : Ord T) (hn : Noc T) {c t r : Nat} (hcn : c < T.nc) (ht : T.base ≤ t) (hr : r < T.nr) (h : T.at r t = (c : Int)) : T.hold c t = (r : Int) := by
  have h1 := TabS.hold_nn hb (t := t) hcn
  by_cases h2 : T.hold c t = -1
  · exact absurd h (TabS.hold_no hb hc ho hcn ht h2 hr)
  · obtain ⟨q, hq⟩ := Int.eq_ofNat_of_zero_le (show 0 ≤ T.hold c t by omega)
    obtain ⟨h3, h4⟩ := TabS.hold_at hb hc ho hn hcn ht hq
    by_cases e : r = q
    · rw [hq, e]
    · exact absurd (h.trans h4.symm) (hn.one r q t hr h3 e ht (by omega))
theorem TabS.at_lt (hb : TBd T) {r : Nat} (hr : r < T.nr) (t : Nat) : -1 ≤ T.at r t ∧ T.at r t < T.nc := by
  have hsp : -1 ≤ spAt (T.sp r) t ∧ spAt (T.sp r) t < T.nc := by
    refine ⟨spAt_nn _ _, ?_⟩
    by_cases h : spAt (T.sp r) t = -1
    · rw [h]; omega
    · obtain ⟨x, h1, h2, h3⟩ := spAt_some h
      have := (hb.sp r x hr h1).1
      omega
  by_cases hw : T.base ≤ t ∧ t < T.base + 256
  · rw [TabS.at_win hw]
    split
    · exact hb.pl r _ hr (Nat.mod_lt _ (by omega))
    · exact hsp
  · rw [TabS.at_out hw]; exact hsp
/-- If the answer to 'swaps' is no, no other robot comes the other way. -/
theorem TabS.swaps_no (hb : TBd T) (hc : Con T) (ho : Ord T) (hn : Noc T) {r a b t : Nat} (han : a < T.nc) (hbn : b < T.nc) (hab : a ≠ b) (ht : T.base ≤ t) (h : T.swaps (r : Int) a b (t : Int) = false) {q : Nat} (hq : q < T.nr) (hqr : q ≠ r) : ¬ (T.at q t = (b : Int) ∧ T.at q ((t + 1 : Nat) : Int) = (a : Int)) := by
  rintro ⟨h1, h2⟩
  unfold TabS.swaps at h
  rw [if_neg hab] at h
  have e1 := TabS.at_hold hb hc ho hn hbn ht hq h1
  have e2 := TabS.at_hold hb hc ho hn han (by omega) hq h2
  rw [show ((t + 1 : Nat) : Int) = (t : Int) + 1 by omega] at e2
  simp only [decide_eq_false_iff_not] at h
  exact h ⟨by omega, by omega, by omega⟩

/-- Less is held, by the same robots, from the base on. -/
theorem Noc.sub {T' : TabS} (hn : Noc T) (h1 : T.base ≤ T'.base) (h2 : T'.nr = T.nr) (h3 : ∀ r (t : Nat), r < T.nr → T'.base ≤ t → T'.at r t = T.at r t ∨ T'.at r t = -1)
    (h4 : ∀ r (t : Nat), r < T.nr → T'.base ≤ t → t < T'.base + 256 → T'.pl r (t % 256) ≠ -1 → spAt (T'.sp r) t = -1) : Noc T' := by
  refine ⟨fun r q t hr hq hne ht ha he => ?_, fun r q t hr hq hne ht ha hb ⟨e1, e2⟩ => ?_, fun r t hr => h4 r t (by omega)⟩
  · have a1 := h3 r t (by omega) ht
    have a2 := h3 q t (by omega) ht
    have := hn.one r q t (by omega) (by omega) hne (by omega)
    rcases a1 with a1 | a1
    · rcases a2 with a2 | a2
      · rw [a1] at ha; exact this ha (by omega)
      · omega
    · omega
  · have a1 := h3 r t (by omega) ht
    have a2 := h3 q t (by omega) ht
    have a3 := h3 r (t + 1) (by omega) (by omega)
    have a4 := h3 q (t + 1) (by omega) (by omega)
    have := hn.swp r q t (by omega) (by omega) hne (by omega)
    rcases a1 with a1 | a1 <;> rcases a2 with a2 | a2 <;> rcases a3 with a3 | a3 <;> rcases a4 with a4 | a4 <;> omega
end
end Go.Proofs.Qxb6500717aGreat
