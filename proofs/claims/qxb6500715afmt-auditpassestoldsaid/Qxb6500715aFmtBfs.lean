/-
  A breadth-first search, plain.
-/
import Derived.Test.Qxb6500715aFmtSym
namespace Go.Proofs.Qxb6500715aFmt
open Go.RowKit
set_option linter.unusedSimpArgs false
set_option linter.unusedVariables false

theorem nodup_le : ∀ (N : Nat) (Q : List Nat), Q.Nodup → (∀ x ∈ Q, x < N) → Q.length ≤ N := by
  intro N
  induction N with
  | zero =>
    intro Q _ h
    cases Q with
    | nil => exact Nat.le_refl _
    | cons x l => exact absurd (h x (by simp)) (by omega)
  | succ N ih =>
    intro Q hd h
    have h1 := ih (Q.erase N) (hd.erase N) (fun x hx => by
      have h2 := (hd.mem_erase_iff).1 hx
      have := h x h2.2
      omega)
    by_cases hm : N ∈ Q
    · have := List.length_erase_of_mem hm; omega
    · rw [List.erase_of_not_mem hm] at h1; omega

/-- row with one more. -/
def upd (row : Nat → Int) (b : Nat) (x : Int) : Nat → Int := fun c => if c = b then x else row c

/-- The search at head h, the first t neighbours of the head's cell looked at. -/
structure Bfs (F : FP) (src : Nat) (row : Nat → Int) (Q : List Nat) (h t : Nat) : Prop where
  q0 : Q[0]? = some src
  r0 : row src = 0
  nd : Q.Nodup
  qN : ∀ x ∈ Q, x < F.N
  mem : ∀ c, row c ≠ -1 ↔ c ∈ Q
  nn : ∀ c ∈ Q, 0 ≤ row c
  le : ∀ (j x : Nat), Q[j]? = some x → row x ≤ j
  mono : ∀ (i j x y : Nat), i ≤ j → Q[i]? = some x → Q[j]? = some y → row x ≤ row y
  near : ∀ (c x : Nat), Q[h]? = some c → x ∈ Q → row x ≤ row c + 1
  par : ∀ c ∈ Q, c ≠ src → ∃ p, p ∈ Q ∧ c ∈ F.adj p ∧ row c = row p + 1
  done : ∀ (j c b : Nat), j < h → Q[j]? = some c → b ∈ F.adj c → b ∈ Q ∧ row b ≤ row c + 1
  part : ∀ (c b j : Nat), Q[h]? = some c → j < t → (F.adj c)[j]? = some b → b ∈ Q ∧ row b ≤ row c + 1

section
variable {F : FP} {src : Nat} {row : Nat → Int} {Q : List Nat} {h t : Nat}

theorem Bfs.start (hs : src < F.N) : Bfs F src (upd (fun _ => -1) src 0) [src] 0 0 where
  q0 := rfl
  r0 := by simp [upd]
  nd := by simp
  qN := by simpa using hs
  mem := fun c => by
    simp only [upd, List.mem_singleton]
    by_cases hc : c = src <;> simp [hc]
  nn := fun c hc => by simp at hc; simp [upd, hc]
  le := fun j x hx => by
    have := (List.getElem?_eq_some_iff.1 hx).1
    simp at this; subst this; simp at hx; simp [upd, hx]
  mono := fun i j x y hij hx hy => by
    have h1 := (List.getElem?_eq_some_iff.1 hx).1
    have h2 := (List.getElem?_eq_some_iff.1 hy).1
    simp at h1 h2; subst h1 h2; simp at hx hy; rw [← hx, ← hy]; exact Int.le_refl _
  near := fun c x hc hx => by simp at hc hx; rw [hx, hc]; omega
  par := fun c hc hne => by simp at hc; exact absurd hc hne
  done := fun j c b hj => absurd hj (by omega)
  part := fun c b j _ hj => absurd hj (by omega)

theorem Bfs.len (B : Bfs F src row Q h t) : Q.length ≤ F.N := nodup_le _ _ B.nd B.qN

/-- A neighbour that has been met. -/
theorem Bfs.skip (B : Bfs F src row Q h t) {c b : Nat} (hc : Q[h]? = some c) (hb : (F.adj c)[t]? = some b) (hr : row b ≠ -1) : Bfs F src row Q h (t + 1) := by
  refine { B with part := fun c' b' j hc' hj hb' => ?_ }
  rw [hc] at hc'
  obtain rfl := Option.some.inj hc'
  by_cases hjt : j = t
  · subst hjt
    rw [hb] at hb'
    obtain rfl := Option.some.inj hb'
    have hm := (B.mem b).1 hr
    exact ⟨hm, B.near c b hc hm⟩
  · exact B.part c b' j hc (by omega) hb'

/-- A neighbour that is new. -/
theorem Bfs.push (B : Bfs F src row Q h t) {c b : Nat} (hc : Q[h]? = some c) (hb : (F.adj c)[t]? = some b) (hbN : b < F.N) (hr : row b = -1) :
    Bfs F src (upd row b (row c + 1)) (Q ++ [b]) h (t + 1) := by
  have hnm : b ∉ Q := fun hm => (B.mem b).2 hm hr
  have hcm : c ∈ Q := List.mem_of_getElem? hc
  have hh : h < Q.length := (List.getElem?_eq_some_iff.1 hc).1
  have hu : ∀ x, x ∈ Q → upd row b (row c + 1) x = row x := fun x hx => by
    simp only [upd]; rw [if_neg (fun (e : x = b) => hnm (by rw [← e]; exact hx))]
  have hub : upd row b (row c + 1) b = row c + 1 := by simp [upd]
  have get : ∀ j x, (Q ++ [b])[j]? = some x → (Q[j]? = some x ∧ j < Q.length) ∨ (j = Q.length ∧ x = b) := fun j x hx => by
    by_cases hj : j < Q.length
    · rw [List.getElem?_append_left hj] at hx; exact Or.inl ⟨hx, hj⟩
    · have := (List.getElem?_eq_some_iff.1 hx).1
      simp at this
      rw [List.getElem?_append_right (by omega), show j - Q.length = 0 by omega] at hx
      simp at hx
      exact Or.inr ⟨by omega, hx.symm⟩
  refine ⟨?_, ?_, ?_, ?_, ?_, ?_, ?_, ?_, ?_, ?_, ?_, ?_⟩
  · rw [List.getElem?_append_left (by omega)]; exact B.q0
  · rw [hu src (List.mem_of_getElem? B.q0)]; exact B.r0
  · rw [List.nodup_append]
    exact ⟨B.nd, by simp, fun x hx y hy e => by simp at hy; subst hy e; exact hnm hx⟩
  · intro x hx
    rcases List.mem_append.1 hx with h1 | h1
    · exact B.qN x h1
    · simp at h1; subst h1; exact hbN
  · intro x
    by_cases hx : x = b
    · subst hx; rw [hub]; constructor
      · intro _; simp
      · intro _; have := B.nn c hcm; omega
    · simp only [upd, if_neg hx, List.mem_append, List.mem_singleton, hx, or_false]; exact B.mem x
  · intro x hx
    rcases List.mem_append.1 hx with h1 | h1
    · rw [hu x h1]; exact B.nn x h1
    · simp at h1; subst h1; rw [hub]; have := B.nn c hcm; omega
  · intro j x hx
    rcases get j x hx with ⟨h1, h2⟩ | ⟨h1, rfl⟩
    · rw [hu x (List.mem_of_getElem? h1)]; exact B.le j x h1
    · rw [hub]; have := B.le h c hc; omega
  · intro i j x y hij hx hy
    rcases get i x hx with ⟨h1, h2⟩ | ⟨h1, rfl⟩
    · rw [hu x (List.mem_of_getElem? h1)]
      rcases get j y hy with ⟨h3, h4⟩ | ⟨h3, rfl⟩
      · rw [hu y (List.mem_of_getElem? h3)]; exact B.mono i j x y hij h1 h3
      · rw [hub]; exact B.near c x hc (List.mem_of_getElem? h1)
    · rcases get j y hy with ⟨h3, h4⟩ | ⟨h3, rfl⟩
      · omega
      · exact Int.le_refl _
  · intro c' x hc' hx
    rw [List.getElem?_append_left hh, hc] at hc'
    obtain rfl := Option.some.inj hc'
    rw [hu c hcm]
    rcases List.mem_append.1 hx with h1 | h1
    · rw [hu x h1]; exact B.near c x hc h1
    · simp at h1; subst h1; rw [hub]; exact Int.le_refl _
  · intro x hx hne
    rcases List.mem_append.1 hx with h1 | h1
    · obtain ⟨p, hp, ha, hr2⟩ := B.par x h1 hne
      exact ⟨p, List.mem_append_left _ hp, ha, by rw [hu x h1, hu p hp]; exact hr2⟩
    · simp at h1; subst h1
      exact ⟨c, List.mem_append_left _ hcm, List.mem_of_getElem? hb, by rw [hub, hu c hcm]⟩
  · intro j x y hj hx hy
    rw [List.getElem?_append_left (by omega)] at hx
    obtain ⟨h1, h2⟩ := B.done j x y hj hx hy
    exact ⟨List.mem_append_left _ h1, by rw [hu y h1, hu x (List.mem_of_getElem? hx)]; exact h2⟩
  · intro c' b' j hc' hj hb'
    rw [List.getElem?_append_left hh, hc] at hc'
    obtain rfl := Option.some.inj hc'
    rw [hu c hcm]
    by_cases hjt : j = t
    · subst hjt
      rw [hb] at hb'; obtain rfl := Option.some.inj hb'
      exact ⟨by simp, by rw [hub]; exact Int.le_refl _⟩
    · obtain ⟨h1, h2⟩ := B.part c b' j hc (by omega) hb'
      exact ⟨List.mem_append_left _ h1, by rw [hu b' h1]; exact h2⟩

/-- The head goes on. -/
theorem Bfs.next (B : Bfs F src row Q h t) {c : Nat} (hc : Q[h]? = some c) (ht : (F.adj c).length ≤ t) : Bfs F src row Q (h + 1) 0 := by
  refine { B with near := fun x y hx hy => ?_, done := fun j x y hj hx hy => ?_, part := fun c b j _ hj => absurd hj (by omega) }
  · have h1 := B.near c y hc hy
    have h2 := B.mono h (h + 1) c x (by omega) hc hx
    omega
  · by_cases hjh : j = h
    · subst hjh
      rw [hc] at hx
      obtain rfl := Option.some.inj hx
      obtain ⟨i, hi, he⟩ := List.getElem_of_mem hy
      exact B.part c y i hc (by omega) (by rw [List.getElem?_eq_getElem hi, he])
    · exact B.done j x y (by omega) hx hy
end
end Go.Proofs.Qxb6500715aFmt
