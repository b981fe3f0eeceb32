/-
  Walks and routes, plain.
-/
import Derived.Test.Qxb6500715aDoorFar3
namespace Go.Proofs.Qxb6500715aDoor
open Go.RowKit
set_option linter.unusedSimpArgs false
set_option linter.unusedVariables false

/-- A walk over adjacent cells. -/
structure Wlk (F : FP) (T : List Nat) : Prop where
  lt : ∀ (i c : Nat), T[i]? = some c → c < F.N
  ad : ∀ (i c d : Nat), T[i]? = some c → T[i + 1]? = some d → d ∈ F.adj c

/-- A walk from a to c. -/
structure Trail (F : FP) (a c : Nat) (T : List Nat) : Prop extends Wlk F T where
  hd : T[0]? = some a
  tl : T[T.length - 1]? = some c

section
variable {F : FP} {a c d : Nat} {T : List Nat}
theorem Trail.one (ha : a < F.N) : Trail F a a [a] := by
  refine ⟨⟨fun i c hc => ?_, fun i c d hc hd => ?_⟩, rfl, rfl⟩
  · have := List.mem_of_getElem? hc; simp at this; omega
  · simp at hd
theorem Trail.len (h : Trail F a c T) : 0 < T.length := (List.getElem?_eq_some_iff.1 h.hd).1
theorem Trail.lt1 (h : Trail F a c T) : c < F.N := h.lt _ _ h.tl
theorem Trail.push (h : Trail F a c T) (hd : d ∈ F.adj c) (hN : d < F.N) : Trail F a d (T ++ [d]) := by
  have hl := h.len
  refine ⟨⟨fun i x hx => ?_, fun i x y hx hy => ?_⟩, ?_, ?_⟩
  · rcases Nat.lt_or_ge i T.length with hi | hi
    · rw [List.getElem?_append_left hi] at hx; exact h.lt i x hx
    · rw [List.getElem?_append_right hi] at hx
      have := List.mem_of_getElem? hx; simp at this; omega
  · rcases Nat.lt_or_ge (i + 1) T.length with hi | hi
    · rw [List.getElem?_append_left (by omega)] at hx
      rw [List.getElem?_append_left hi] at hy
      exact h.ad i x y hx hy
    · have hi2 : i + 1 = T.length := by
        have := (List.getElem?_eq_some_iff.1 hy).1
        simp at this; omega
      rw [List.getElem?_append_left (by omega), show i = T.length - 1 by omega, h.tl] at hx
      rw [hi2, List.getElem?_append_right (Nat.le_refl _), Nat.sub_self] at hy
      simp at hx hy
      subst hx hy; exact hd
  · rw [List.getElem?_append_left hl]; exact h.hd
  · simp
end

end Go.Proofs.Qxb6500715aDoor
