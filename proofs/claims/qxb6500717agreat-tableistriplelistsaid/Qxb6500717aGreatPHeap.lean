/-
  The heap, plain: a list with the parent's rule; a swap; the least stands at the head.
-/
import Derived.Test.Qxb6500717aGreatOwn
namespace Go.Proofs.Qxb6500717aGreat
open List

/-- key, tie, value, number of the push. -/
abbrev Ent := Int × Int × Int × Int

/-- a comes before b. -/
def Lt (a b : Ent) : Prop := a.1 < b.1 ∨ (a.1 = b.1 ∧ (a.2.1 < b.2.1 ∨ (a.2.1 = b.2.1 ∧ a.2.2.2 < b.2.2.2)))

theorem lt_irrefl (a : Ent) : ¬ Lt a a := by unfold Lt; omega
theorem lt_trans {a b c : Ent} (h1 : Lt a b) (h2 : Lt b c) : Lt a c := by unfold Lt at *; omega
theorem nlt_trans {a b c : Ent} (h1 : ¬ Lt a b) (h2 : ¬ Lt b c) : ¬ Lt a c := by unfold Lt at *; omega
theorem lt_not {a b : Ent} (h : Lt a b) : ¬ Lt b a := by unfold Lt at *; omega
theorem tie_eq {a b : Ent} (h1 : ¬ Lt a b) (h2 : ¬ Lt b a) : a.2.2.2 = b.2.2.2 := by unfold Lt at *; omega

def at0 (L : List Ent) (i : Nat) : Ent := L.getD i (0, 0, 0, 0)
theorem at0_get (L : List Ent) (i : Nat) (h : i < L.length) : L[i]? = some (at0 L i) := by
  simp [at0, List.getD_eq_getElem?_getD, List.getElem?_eq_getElem h]
theorem at0_getElem (L : List Ent) (i : Nat) (h : i < L.length) : L[i] = at0 L i := by
  have := at0_get L i h
  rw [List.getElem?_eq_getElem h] at this
  exact Option.some.inj this

def swp (L : List Ent) (i j : Nat) : List Ent := (L.set i (at0 L j)).set j (at0 L i)
theorem swp_len (L : List Ent) (i j : Nat) : (swp L i j).length = L.length := by simp [swp]
theorem swp_at (L : List Ent) (i j k : Nat) (hi : i < L.length) (hj : j < L.length) : at0 (swp L i j) k = if k = j then at0 L i else if k = i then at0 L j else at0 L k := by
  simp only [swp, at0, List.getD_eq_getElem?_getD, List.getElem?_set, List.length_set]
  by_cases h1 : k = j
  · subst h1; simp [hj]
  · by_cases h2 : k = i
    · subst h2; simp [Ne.symm h1, h1, hi]
    · simp [Ne.symm h1, h1, Ne.symm h2, h2]
theorem swp_perm (L : List Ent) (i j : Nat) (hi : i < L.length) (hj : j < L.length) : (swp L i j).Perm L := by
  unfold swp
  rw [← at0_getElem L i hi, ← at0_getElem L j hj]
  exact List.set_set_perm hi hj

def isHeap (L : List Ent) : Prop := ∀ i, 0 < i → i < L.length → ¬ Lt (at0 L i) (at0 L ((i - 1) / 2))

theorem heap_least {L : List Ent} (h : isHeap L) : ∀ i, i < L.length → ¬ Lt (at0 L i) (at0 L 0) := by
  intro i
  induction i using Nat.strongRecOn with
  | ind i ih =>
    intro hi
    by_cases h0 : i = 0
    · subst h0; exact lt_irrefl _
    · exact nlt_trans (h i (by omega) hi) (ih ((i - 1) / 2) (by omega) (by omega))

/-- Pushing: all is in order but for the one at i, which may come before its parent. -/
def upAt (L : List Ent) (i : Nat) : Prop :=
  (∀ j, 0 < j → j < L.length → j ≠ i → ¬ Lt (at0 L j) (at0 L ((j - 1) / 2))) ∧
  (0 < i → ∀ j, 0 < j → j < L.length → (j - 1) / 2 = i → ¬ Lt (at0 L j) (at0 L ((i - 1) / 2)))

theorem up_start {L : List Ent} (h : isHeap L) (e : Ent) : upAt (L ++ [e]) L.length := by
  have hat : ∀ j, j < L.length → at0 (L ++ [e]) j = at0 L j := fun j hj => by
    simp [at0, List.getD_eq_getElem?_getD, List.getElem?_append_left hj]
  refine ⟨fun j h0 h1 h2 => ?_, fun h0 j h1 h2 h3 => ?_⟩
  · simp at h1
    rw [hat j (by omega), hat _ (by omega)]
    exact h j h0 (by omega)
  · simp at h2; omega
theorem up_done0 {L : List Ent} (h : upAt L 0) : isHeap L := fun i h0 h1 => h.1 i h0 h1 (by omega)
theorem up_done {L : List Ent} {i : Nat} (h : upAt L i) (h2 : ¬ Lt (at0 L i) (at0 L ((i - 1) / 2))) : isHeap L := fun j h0 h1 => by
  by_cases hj : j = i
  · subst hj; exact h2
  · exact h.1 j h0 h1 hj
theorem up_step {L : List Ent} {i : Nat} (h : upAt L i) (h0 : 0 < i) (hi : i < L.length) (hl : Lt (at0 L i) (at0 L ((i - 1) / 2))) : upAt (swp L i ((i - 1) / 2)) ((i - 1) / 2) := by
  have hp : (i - 1) / 2 < L.length := by omega
  have hat := fun k => swp_at L i ((i - 1) / 2) k hi hp
  obtain ⟨p, hpe⟩ : ∃ p, p = (i - 1) / 2 := ⟨_, rfl⟩
  rw [← hpe] at hat hl hp ⊢
  have hpi : p ≠ i := by omega
  refine ⟨fun j j0 j1 j2 => ?_, fun p0 j j0 j1 j2 => ?_⟩
  · rw [swp_len] at j1
    rw [hat, hat, if_neg j2]
    by_cases hji : j = i
    · subst hji
      rw [if_pos rfl, if_pos hpe.symm]
      exact lt_not hl
    · rw [if_neg hji]
      by_cases hq : (j - 1) / 2 = p
      · rw [if_pos hq]
        have := h.1 j j0 j1 hji
        rw [hq] at this
        exact nlt_trans this (lt_not hl)
      · rw [if_neg hq]
        by_cases hq2 : (j - 1) / 2 = i
        · rw [if_pos hq2]
          have := h.2 h0 j j0 j1 hq2
          rwa [← hpe] at this
        · rw [if_neg hq2]
          exact h.1 j j0 j1 hji
  · rw [swp_len] at j1
    have hpp : (p - 1) / 2 ≠ p := by omega
    have hpp2 : (p - 1) / 2 ≠ i := by omega
    have hup : ¬ Lt (at0 L p) (at0 L ((p - 1) / 2)) := h.1 p p0 hp hpi
    rw [hat, hat ((p - 1) / 2), if_neg hpp, if_neg hpp2, if_neg (by omega : ¬ j = p)]
    by_cases hji : j = i
    · rw [if_pos hji]; exact hup
    · rw [if_neg hji]
      have := h.1 j j0 j1 hji
      rw [j2] at this
      exact nlt_trans this hup

/-- Sinking: all is in order but for the one at i, which may come behind its children. -/
def dnAt (L : List Ent) (i : Nat) : Prop :=
  (∀ j, 0 < j → j < L.length → (j - 1) / 2 ≠ i → ¬ Lt (at0 L j) (at0 L ((j - 1) / 2))) ∧
  (0 < i → ∀ j, 0 < j → j < L.length → (j - 1) / 2 = i → ¬ Lt (at0 L j) (at0 L ((i - 1) / 2)))

theorem dn_done {L : List Ent} {i : Nat} (h : dnAt L i) (h1 : 2 * i + 1 < L.length → ¬ Lt (at0 L (2 * i + 1)) (at0 L i)) (h2 : 2 * i + 2 < L.length → ¬ Lt (at0 L (2 * i + 2)) (at0 L i)) : isHeap L := fun j j0 j1 => by
  by_cases hj : (j - 1) / 2 = i
  · rcases (by omega : j = 2 * i + 1 ∨ j = 2 * i + 2) with rfl | rfl
    · rw [hj]; exact h1 j1
    · rw [hj]; exact h2 j1
  · exact h.1 j j0 j1 hj
theorem dn_step {L : List Ent} {i l : Nat} (h : dnAt L i) (hi : i < L.length) (hl : l < L.length) (hc : l = 2 * i + 1 ∨ l = 2 * i + 2) (hli : Lt (at0 L l) (at0 L i))
    (h1 : 2 * i + 1 < L.length → ¬ Lt (at0 L (2 * i + 1)) (at0 L l)) (h2 : 2 * i + 2 < L.length → ¬ Lt (at0 L (2 * i + 2)) (at0 L l)) : dnAt (swp L i l) l := by
  have hat := fun k => swp_at L i l k hi hl
  have hpl : (l - 1) / 2 = i := by omega
  refine ⟨fun j j0 j1 j2 => ?_, fun l0 j j0 j1 j2 => ?_⟩
  · rw [swp_len] at j1
    rw [hat, hat, if_neg j2]
    by_cases hjl : j = l
    · subst hjl
      rw [if_pos rfl, if_pos hpl]
      exact lt_not hli
    · rw [if_neg hjl]
      by_cases hji : j = i
      · subst hji
        rw [if_pos rfl]
        have hne : (j - 1) / 2 ≠ j := by omega
        rw [if_neg hne]
        have := h.2 j0 l (by omega) hl hpl
        exact this
      · rw [if_neg hji]
        by_cases hq : (j - 1) / 2 = i
        · rw [if_pos hq]
          rcases (by omega : j = 2 * i + 1 ∨ j = 2 * i + 2) with rfl | rfl
          · exact h1 j1
          · exact h2 j1
        · rw [if_neg hq]
          exact h.1 j j0 j1 hq
  · rw [swp_len] at j1
    rw [hat, hat, hpl, if_neg (by omega : ¬ j = l), if_neg (by omega : ¬ j = i), if_neg (by omega : ¬ i = l), if_pos rfl]
    have := h.1 j j0 j1 (by omega)
    rw [j2] at this
    exact this
theorem dn_start {L : List Ent} (h : isHeap L) (e : Ent) : dnAt (L.set 0 e).dropLast 0 := by
  have hlen : (L.set 0 e).dropLast.length = L.length - 1 := by simp
  have hat : ∀ j, 0 < j → j < L.length - 1 → at0 (L.set 0 e).dropLast j = at0 L j := fun j h0 hj => by
    have hj2 : j < (L.set 0 e).dropLast.length := by omega
    have hj3 : j < L.length := by omega
    simp [at0, List.getD_eq_getElem?_getD, List.getElem?_eq_getElem hj2, List.getElem?_eq_getElem hj3, List.getElem_dropLast, List.getElem_set]
    omega
  refine ⟨fun j j0 j1 j2 => ?_, fun h0 => absurd h0 (by omega)⟩
  rw [hlen] at j1
  rw [hat j j0 j1, hat _ (by omega) (by omega)]
  exact h j j0 (by omega)

/-- What is left when the head is gone. -/
theorem pop_perm (L : List Ent) (hn : 0 < L.length) : (at0 L 0 :: (L.set 0 (at0 L (L.length - 1))).dropLast).Perm L := by
  match L, hn with
  | [a], _ => simp [at0]
  | a :: b :: r, _ =>
    have hlast : at0 (a :: b :: r) ((a :: b :: r).length - 1) = (b :: r).getLast (by simp) := by
      simp [at0, List.getD_eq_getElem?_getD, List.getLast_eq_getElem]
    rw [hlast]
    simp only [List.set_cons_zero, List.dropLast_cons_cons]
    have h0 : at0 (a :: b :: r) 0 = a := by simp [at0]
    rw [h0]
    refine List.Perm.cons a ?_
    have := List.dropLast_concat_getLast (l := b :: r) (by simp)
    refine (List.perm_append_comm (l₁ := [(b :: r).getLast (by simp)]) (l₂ := (b :: r).dropLast)).trans ?_
    rw [this]
end Go.Proofs.Qxb6500717aGreat
