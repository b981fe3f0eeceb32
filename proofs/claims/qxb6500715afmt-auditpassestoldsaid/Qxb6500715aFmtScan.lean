/-
  The numbering of the drivable places in scan order, plain; the neighbours of a place in scan order.
-/
import Derived.WalkKit
namespace Go.Proofs.Qxb6500715aFmt
set_option linter.unusedVariables false

section
variable (dr : Nat → Bool)

/-- How many of the places before i are drivable. -/
def cnt : Nat → Nat
  | 0 => 0
  | i + 1 => cnt i + if dr i then 1 else 0

/-- The drivable places before i, ascending. -/
def cellsTo : Nat → List Nat
  | 0 => []
  | i + 1 => if dr i then cellsTo i ++ [i] else cellsTo i

/-- The c-th drivable place. -/
def plc (L c : Nat) : Nat := (cellsTo dr L).getD c 0

theorem cellsTo_len (i : Nat) : (cellsTo dr i).length = cnt dr i := by
  induction i with
  | zero => rfl
  | succ i ih =>
    simp only [cellsTo, cnt]
    split <;> simp [ih]

theorem cnt_mono {i j : Nat} (h : i ≤ j) : cnt dr i ≤ cnt dr j := by
  induction j with
  | zero => obtain rfl : i = 0 := by omega
            exact Nat.le_refl _
  | succ j ih =>
    by_cases hj : i = j + 1
    · subst hj; exact Nat.le_refl _
    · have := ih (by omega)
      simp only [cnt]; omega

theorem cnt_le (i : Nat) : cnt dr i ≤ i := by
  induction i with
  | zero => exact Nat.le_refl _
  | succ i ih => simp only [cnt]; split <;> omega

theorem cellsTo_get {i L : Nat} (hi : i < L) (hd : dr i = true) : (cellsTo dr L)[cnt dr i]? = some i := by
  induction L with
  | zero => omega
  | succ L ih =>
    simp only [cellsTo]
    by_cases hL : i = L
    · subst hL
      rw [if_pos hd, ← cellsTo_len dr i, List.getElem?_append_right (Nat.le_refl _)]
      simp
    · have h1 := ih (by omega)
      split
      · rw [List.getElem?_append_left (by
          have := (List.getElem?_eq_some_iff.1 h1).1
          exact this)]
        exact h1
      · exact h1

theorem plc_cnt {i L : Nat} (hi : i < L) (hd : dr i = true) : plc dr L (cnt dr i) = i := by
  simp [plc, List.getD_eq_getElem?_getD, cellsTo_get dr hi hd]

theorem cnt_lt {i L : Nat} (hi : i < L) (hd : dr i = true) : cnt dr i < cnt dr L := by
  have := cnt_mono dr (show i + 1 ≤ L by omega)
  simp only [cnt, hd, if_true] at this
  omega

theorem cellsTo_mem {L c i : Nat} (h : (cellsTo dr L)[c]? = some i) : i < L ∧ dr i = true ∧ cnt dr i = c := by
  induction L with
  | zero => simp [cellsTo] at h
  | succ L ih =>
    simp only [cellsTo] at h
    split at h
    · rename_i hd
      by_cases hc : c < (cellsTo dr L).length
      · rw [List.getElem?_append_left hc] at h
        have := ih h
        exact ⟨by omega, this.2⟩
      · rw [List.getElem?_append_right (by omega)] at h
        have h2 := (List.getElem?_eq_some_iff.1 h)
        obtain ⟨h3, h4⟩ := h2
        simp at h3 h4
        subst h4
        refine ⟨by omega, hd, ?_⟩
        rw [← cellsTo_len]; omega
    · have := ih h
      exact ⟨by omega, this.2⟩

theorem plc_spec {L c : Nat} (hc : c < cnt dr L) : plc dr L c < L ∧ dr (plc dr L c) = true ∧ cnt dr (plc dr L c) = c := by
  have hl : c < (cellsTo dr L).length := by rw [cellsTo_len]; exact hc
  have h : (cellsTo dr L)[c]? = some (plc dr L c) := by
    simp [plc, List.getD_eq_getElem?_getD, List.getElem?_eq_getElem hl]
  exact cellsTo_mem dr h

theorem plc_inj {L c c' : Nat} (hc : c < cnt dr L) (hc' : c' < cnt dr L) (h : plc dr L c = plc dr L c') : c = c' := by
  rw [← (plc_spec dr hc).2.2, ← (plc_spec dr hc').2.2, h]

theorem cnt_inj {i j : Nat} (hi : dr i = true) (hj : dr j = true) (h : cnt dr i = cnt dr j) : i = j := by
  rcases Nat.lt_trichotomy i j with h1 | h1 | h1
  · have := cnt_lt dr h1 hi; omega
  · exact h1
  · have := cnt_lt dr h1 hj; omega
end

/-- The place one move from a place: 1 a row less, 2 a column less, 3 a column more, 4 a row more. -/
def sh (r q : Int) (d : Int) : Int × Int := if d = 1 then (r - 1, q) else if d = 4 then (r + 1, q) else if d = 2 then (r, q - 1) else if d = 3 then (r, q + 1) else (r, q)
end Go.Proofs.Qxb6500715aFmt
