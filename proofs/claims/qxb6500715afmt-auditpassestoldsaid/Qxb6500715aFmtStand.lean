/-
  Standard: the layout it lays.
-/
import Derived.Test.Qxb6500715aFmtLaw8b
namespace Go
/-- What is owned from 'base' on does not hang on what lies below. -/
theorem ownsRow_swap {w1 w2 z : World} {base : Nat} {e : TypeId} {size : Nat} {v : Value} {n : Nat} {xs : List Value} (h : (w1.ext z).ownsRow base e size v n xs) (hs : w1.heap.size = w2.heap.size) (hb : w1.heap.size ≤ base) : (w2.ext z).ownsRow base e size v n xs := by
  obtain ⟨h1, h2⟩ := h
  refine ⟨h1, ?_⟩
  rcases h2 with h2 | ⟨g, cap, cur, hv, hg, hh, r⟩
  · exact Or.inl h2
  · refine Or.inr ⟨g, cap, cur, hv, hg, ?_, r⟩
    rw [← hh]
    show (w2.heap ++ z.heap)[g]? = (w1.heap ++ z.heap)[g]?
    rw [Array.getElem?_append_right (by omega), Array.getElem?_append_right (by omega), hs]

/-- The same of one cell, in a world that has grown. -/
theorem cell_swap {w1 w2 z y : World} {b o : Nat} {v : Value} (h : (w1.ext z).cell? ⟨b, o, none⟩ = some v) (hs : w1.heap.size = w2.heap.size) (hb : w1.heap.size ≤ b) (hb2 : b < w1.heap.size + z.heap.size) (hy : ∀ i, i < z.heap.size → y.heap[i]? = z.heap[i]?) : (w2.ext y).cell? ⟨b, o, none⟩ = some v := by
  rw [← h]
  refine World.cell?_of_block ?_
  show (w2.heap ++ y.heap)[b]? = (w1.heap ++ z.heap)[b]?
  rw [Array.getElem?_append_right (by omega), Array.getElem?_append_right (by omega), ← hs]
  exact hy _ (by omega)

theorem ownsRow_nil {w : World} {base : Nat} {e : TypeId} {size : Nat} : w.ownsRow base e size (.slice none 0 0) 0 [] := by
  exact ⟨by simp, Or.inl ⟨rfl, rfl⟩⟩

theorem ownsRow_cells2 {w : World} {base : Nat} {e : TypeId} {v : Value} {n : Nat} {xs : List Value} (h : w.ownsRow base e 2 v n xs) (hn : 0 < n) :
    ∃ g cap : Nat, v = .slice (some ⟨g, 0, none⟩) n cap ∧ n ≤ cap ∧ base ≤ g ∧ g < w.heap.size ∧ ∀ i u, xs[i]? = some u → w.cell? ⟨g, i, none⟩ = some u := by
  obtain ⟨h1, h2⟩ := h
  rcases h2 with ⟨_, h2⟩ | ⟨g, cap, cur, hv, hg, hh, hnc, _, hsz, ht⟩
  · omega
  · refine ⟨g, cap, hv, hnc, hg, (Array.getElem?_eq_some_iff.1 hh).1, fun i u hu => ?_⟩
    rw [cell_of_row w g i cur e (0, 0) hh, ← Array.getElem?_toList]
    rw [← ht, List.getElem?_take] at hu
    split at hu
    · exact hu
    · cases hu
end Go
namespace Go.Proofs.Qxb6500715aFmt
open Go.RowKit
set_option linter.unusedSimpArgs false
set_option linter.unusedVariables false

/-- n places, two cells each. -/
def rowP (px py : Nat → Int) : Nat → List Value
  | 0 => []
  | n + 1 => rowP px py n ++ [.int .i64 (px n), .int .i64 (py n)]
theorem rowP_len (px py : Nat → Int) (n : Nat) : (rowP px py n).length = n * 2 := by
  induction n with
  | zero => rfl
  | succ n ih => simp only [rowP, List.length_append, ih]; simp; omega
theorem rowP_get (px py : Nat → Int) (n i : Nat) (h : i < n) : (rowP px py n)[i * 2]? = some (.int .i64 (px i)) ∧ (rowP px py n)[i * 2 + 1]? = some (.int .i64 (py i)) := by
  induction n with
  | zero => omega
  | succ n ih =>
    simp only [rowP]
    have hl := rowP_len px py n
    by_cases hi : i < n
    · rw [List.getElem?_append_left (by omega), List.getElem?_append_left (by omega)]
      exact ih hi
    · obtain rfl : i = n := by omega
      rw [List.getElem?_append_right (by omega), List.getElem?_append_right (by omega), hl]
      simp

def stdX (W S : Int) (i : Nat) : Int := if (i : Int) < W then 0 else S + 3
def stdY (W : Int) (i : Nat) : Int := if (i : Int) < W then i else i - W

/-- The standard layouts are sound. -/
theorem std_ok (A S P D : Int) (n : Nat) (hA : 1 ≤ A ∧ A ≤ 8) (hS : 1 ≤ S ∧ S ≤ 12) (hP : 2 ≤ P ∧ P ≤ 3) (hD : 1 ≤ D ∧ D ≤ 2) (hn : 1 ≤ n ∧ n ≤ 6) :
    layOk A S P D 1 1 n (stdX ((A - 1) * P + 3) S) (stdY ((A - 1) * P + 3)) := by
  have hw : 3 ≤ (A - 1) * P + 3 := by rcases (by omega : P = 2 ∨ P = 3) with rfl | rfl <;> omega
  refine ⟨hn, hA, hS, hP, hD, rfl, by omega, ?_, ?_⟩
  · intro i hi
    by_cases h : (i : Int) < (A - 1) * P + 3
    · have e1 : (stdX ((A - 1) * P + 3) S) i = 0 := by simp [stdX, h]
      have e2 : (stdY ((A - 1) * P + 3)) i = i := by simp [stdY, h]
      simp only [onApron, inGrid, Bool.and_eq_true, Bool.or_eq_true, beq_iff_eq, decide_eq_true_eq]
      rw [e1, e2]
      omega
    · have e1 : (stdX ((A - 1) * P + 3) S) i = S + 3 := by simp [stdX, h]
      have e2 : (stdY ((A - 1) * P + 3)) i = i - ((A - 1) * P + 3) := by simp [stdY, h]
      simp only [onApron, inGrid, Bool.and_eq_true, Bool.or_eq_true, beq_iff_eq, decide_eq_true_eq]
      rw [e1, e2]
      omega
  · intro i j hj hi
    simp only [stdX, stdY]
    split <;> split <;> omega


def stdPost (A S P D : Int) (n : Nat) (w : World) (e : Ending) (w' : World) : Prop :=
  ∃ (pb cap : Nat) (o : Int), n ≤ cap ∧ w.heap.size ≤ pb ∧ pb < w'.heap.size ∧ (∀ i, i < n → w'.cell? ⟨pb, i * 2, none⟩ = some (.int .i64 ((stdX ((A - 1) * P + 3) S) i))) ∧ (∀ i, i < n → w'.cell? ⟨pb, i * 2 + 1, none⟩ = some (.int .i64 ((stdY ((A - 1) * P + 3)) i))) ∧
    e = .returned (.tuple #[.agg #[.int .i64 (A), .int .i64 (S), .int .i64 (P), .int .i64 (D), .int .i64 (1), .int .i64 (1), .slice (some ⟨pb, 0, none⟩) n cap], .agg #[.int .u8 0, .int .i64 (o)]]) ∧ ∃ z, w' = w.ext z

end Go.Proofs.Qxb6500715aFmt
