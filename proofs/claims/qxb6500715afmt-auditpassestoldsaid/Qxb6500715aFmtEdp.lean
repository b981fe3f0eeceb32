/-
  Edges, plain: neighbour lists ascend; the list of edges; an edge's number.
-/
import Derived.Test.Qxb6500715aFmtEntry
import Derived.Test.Qxb6500715aFmtSym
namespace Go.Proofs.Qxb6500715aFmt
open Go.RowKit
set_option linter.unusedSimpArgs false
set_option linter.unusedVariables false

theorem to_0 (F : FP) (c : Nat) : F.to c 0 = (((F.pl c / F.W : Nat) : Int) - 1, ((F.pl c % F.W : Nat) : Int)) := rfl
theorem to_1 (F : FP) (c : Nat) : F.to c 1 = (((F.pl c / F.W : Nat) : Int), ((F.pl c % F.W : Nat) : Int) - 1) := rfl
theorem to_2 (F : FP) (c : Nat) : F.to c 2 = (((F.pl c / F.W : Nat) : Int), ((F.pl c % F.W : Nat) : Int) + 1) := rfl
theorem to_3 (F : FP) (c : Nat) : F.to c 3 = (((F.pl c / F.W : Nat) : Int) + 1, ((F.pl c % F.W : Nat) : Int)) := rfl

theorem id_mono (F : FP) {i j : Nat} (h : i < j) (hd : drv (F.kd i) = true) : F.id i < F.id j := cnt_lt (fun t => drv (F.kd t)) h hd

theorem to_asc (F : FP) (hW : 3 ≤ F.W) (c : Nat) {j k : Nat} (hjk : j < k) (hk : k < 4) (hj : F.can c j = true) (hkc : F.can c k = true) :
    F.id ((F.to c j).1.toNat * F.W + (F.to c j).2.toNat) < F.id ((F.to c k).1.toNat * F.W + (F.to c k).2.toNat) := by
  obtain ⟨⟨a1, a2, a3, a4⟩, a5⟩ := pas_in F hj
  obtain ⟨⟨b1, b2, b3, b4⟩, b5⟩ := pas_in F hkc
  refine id_mono F ?_ a5
  obtain ⟨R, hR⟩ : ∃ R, F.pl c / F.W = R := ⟨_, rfl⟩
  obtain ⟨q, hq⟩ : ∃ q, F.pl c % F.W = q := ⟨_, rfl⟩
  have hqW : q < F.W := by rw [← hq]; exact Nat.mod_lt _ (by omega)
  have m1 : 1 ≤ R → (R - 1) * F.W + F.W = R * F.W := fun h => by
    rw [← Nat.succ_mul]; congr 1; omega
  have m2 : (R + 1) * F.W = R * F.W + F.W := Nat.succ_mul _ _
  rcases (by omega : (j = 0 ∧ k = 1) ∨ (j = 0 ∧ k = 2) ∨ (j = 0 ∧ k = 3) ∨ (j = 1 ∧ k = 2) ∨ (j = 1 ∧ k = 3) ∨ (j = 2 ∧ k = 3)) with ⟨rfl, rfl⟩ | ⟨rfl, rfl⟩ | ⟨rfl, rfl⟩ | ⟨rfl, rfl⟩ | ⟨rfl, rfl⟩ | ⟨rfl, rfl⟩ <;>
    simp only [to_0, to_1, to_2, to_3, hR, hq] at a1 a2 a3 a4 b1 b2 b3 b4 ⊢
  · have := m1 (by omega)
    rw [show ((R : Int) - 1).toNat = R - 1 by omega, show ((q : Int) - 1).toNat = q - 1 by omega]
    simp only [Int.toNat_natCast]
    omega
  · have := m1 (by omega)
    rw [show ((R : Int) - 1).toNat = R - 1 by omega, show ((q : Int) + 1).toNat = q + 1 by omega]
    simp only [Int.toNat_natCast]
    omega
  · have := m1 (by omega)
    rw [show ((R : Int) - 1).toNat = R - 1 by omega, show ((R : Int) + 1).toNat = R + 1 by omega]
    simp only [Int.toNat_natCast]
    omega
  · rw [show ((q : Int) - 1).toNat = q - 1 by omega, show ((q : Int) + 1).toNat = q + 1 by omega]
    simp only [Int.toNat_natCast]
    omega
  · rw [show ((q : Int) - 1).toNat = q - 1 by omega, show ((R : Int) + 1).toNat = R + 1 by omega]
    simp only [Int.toNat_natCast]
    omega
  · rw [show ((q : Int) + 1).toNat = q + 1 by omega, show ((R : Int) + 1).toNat = R + 1 by omega]
    simp only [Int.toNat_natCast]
    omega

theorem adjTo_asc (F : FP) (hW : 3 ≤ F.W) (c : Nat) : ∀ k, k ≤ 4 → (F.adjTo c k).Pairwise (· < ·)
  | 0, _ => List.Pairwise.nil
  | k + 1, h => by
    simp only [FP.adjTo]
    refine List.pairwise_append.2 ⟨adjTo_asc F hW c k (by omega), ?_, ?_⟩
    · split <;> simp
    · intro x hx y hy
      split at hy
      · rename_i hc
        obtain ⟨j, h1, h2, h3⟩ := (mem_adjTo F c k x).1 hx
        simp only [List.mem_singleton] at hy
        rw [h3, hy]
        exact to_asc F hW c h1 (by omega) h2 hc
      · simp at hy
/-- Neighbour lists ascend. -/
theorem adj_asc (F : FP) (hW : 3 ≤ F.W) (c : Nat) : (F.adj c).Pairwise (· < ·) := adjTo_asc F hW c 4 (Nat.le_refl _)
theorem adj_inj (F : FP) (hW : 3 ≤ F.W) {c i j b : Nat} (hi : (F.adj c)[i]? = some b) (hj : (F.adj c)[j]? = some b) : i = j := by
  obtain ⟨h1, h2⟩ := List.getElem?_eq_some_iff.1 hi
  obtain ⟨h3, h4⟩ := List.getElem?_eq_some_iff.1 hj
  have hp := List.pairwise_iff_getElem.1 (adj_asc F hW c)
  rcases Nat.lt_trichotomy i j with h | h | h
  · have := hp i j h1 h3 h; omega
  · exact h
  · have := hp j i h3 h1 h; omega

/-- The edges that go up from c to cells of l. -/
def upc (c : Nat) (l : List Nat) : List (Nat × Nat) := (l.filter (fun b => decide (c < b))).map (fun b => (c, b))
def FP.ends (F : FP) : Nat → List (Nat × Nat)
  | 0 => []
  | c + 1 => F.ends c ++ upc c (F.adj c)
/-- What is entered when j neighbours of c are done. -/
def FP.endsTo (F : FP) (c j : Nat) : List (Nat × Nat) := F.ends c ++ upc c ((F.adj c).take j)
def pr (a b : Nat) : Nat × Nat := (min a b, max a b)
theorem pr_comm (a b : Nat) : pr a b = pr b a := by unfold pr; rw [Nat.min_comm, Nat.max_comm]
theorem pr_lt {a b : Nat} (h : a < b) : pr a b = (a, b) := by unfold pr; rw [Nat.min_eq_left (by omega), Nat.max_eq_right (by omega)]

theorem mem_upc {c : Nat} {l : List Nat} {p : Nat × Nat} : p ∈ upc c l ↔ p.1 = c ∧ p.2 ∈ l ∧ c < p.2 := by
  unfold upc
  simp only [List.mem_map, List.mem_filter, decide_eq_true_eq]
  constructor
  · rintro ⟨b, ⟨h1, h2⟩, rfl⟩; exact ⟨rfl, h1, h2⟩
  · rintro ⟨h1, h2, h3⟩; exact ⟨p.2, ⟨h2, h3⟩, by rw [← h1]⟩
theorem mem_ends (F : FP) {p : Nat × Nat} : ∀ {c : Nat}, p ∈ F.ends c ↔ p.1 < c ∧ p.2 ∈ F.adj p.1 ∧ p.1 < p.2
  | 0 => by simp [FP.ends]
  | c + 1 => by
    simp only [FP.ends, List.mem_append, mem_ends F (c := c), mem_upc]
    constructor
    · rintro (⟨h1, h2, h3⟩ | ⟨h1, h2, h3⟩)
      · exact ⟨by omega, h2, h3⟩
      · subst h1; exact ⟨by omega, h2, h3⟩
    · rintro ⟨h1, h2, h3⟩
      by_cases h : p.1 = c
      · subst h; exact Or.inr ⟨rfl, h2, h3⟩
      · exact Or.inl ⟨by omega, h2, h3⟩
theorem endsTo_zero (F : FP) (c : Nat) : F.endsTo c 0 = F.ends c := by simp [FP.endsTo, upc]
theorem endsTo_full (F : FP) (c : Nat) : F.endsTo c (F.adj c).length = F.ends (c + 1) := by simp [FP.endsTo, FP.ends]
theorem endsTo_up (F : FP) {c j b : Nat} (h : (F.adj c)[j]? = some b) (hb : c < b) : F.endsTo c (j + 1) = F.endsTo c j ++ [(c, b)] := by
  unfold FP.endsTo
  rw [List.take_add_one, h, List.append_assoc]
  congr 1
  simp [upc, hb]
theorem endsTo_dn (F : FP) {c j b : Nat} (h : (F.adj c)[j]? = some b) (hb : ¬ c < b) : F.endsTo c (j + 1) = F.endsTo c j := by
  unfold FP.endsTo
  rw [List.take_add_one, h]
  congr 1
  simp [upc, hb]
theorem endsTo_new (F : FP) (hW : 3 ≤ F.W) {c j b : Nat} (h : (F.adj c)[j]? = some b) : (c, b) ∉ F.endsTo c j := by
  intro hm
  rcases List.mem_append.1 hm with h1 | h1
  · exact absurd ((mem_ends F).1 h1).1 (by simp)
  · have h2 := (mem_upc.1 h1).2.1
    obtain ⟨t, ht⟩ := List.mem_iff_getElem?.1 h2
    rw [List.getElem?_take] at ht
    split at ht
    · have := adj_inj F hW h ht; omega
    · cases ht
/-- The number of the edge between a and b. -/
def edn (l : List (Nat × Nat)) (a b : Nat) : Nat := l.idxOf (pr a b)
theorem edn_comm (l : List (Nat × Nat)) (a b : Nat) : edn l a b = edn l b a := by unfold edn; rw [pr_comm]
theorem edn_app {l l' : List (Nat × Nat)} {a b : Nat} (h : pr a b ∈ l) : edn (l ++ l') a b = edn l a b := by
  unfold edn
  rw [List.idxOf_append, if_pos h]

/-- What is known of the edges when j neighbours of c are done. -/
structure EdI (F : FP) (c j : Nat) (E : Array Value) (m : Nat) (xs : List Value) : Prop where
  hm : m = (F.endsTo c j).length
  hx : xs = (F.endsTo c j).flatMap (fun p => [.int .i64 (p.1), .int .i64 (p.2)])
  ev : ∀ a t b, (a < c ∨ a = c ∧ t < j) → (F.adj a)[t]? = some b → pr a b ∈ F.endsTo c j ∧ E[F.st a + t]? = some (.int .i64 (edn (F.endsTo c j) a b))

section
variable {F : FP} {c j m : Nat} {E : Array Value} {xs : List Value}
theorem EdI.start (F : FP) (E : Array Value) : EdI F 0 0 E 0 [] := ⟨by simp [FP.endsTo, FP.ends, upc], by simp [FP.endsTo, FP.ends, upc], fun a t b h => by omega⟩
theorem EdI.next (h : EdI F c (F.adj c).length E m xs) : EdI F (c + 1) 0 E m xs := by
  have e : F.endsTo (c + 1) 0 = F.endsTo c (F.adj c).length := by rw [endsTo_zero, endsTo_full]
  refine ⟨by rw [e]; exact h.hm, by rw [e]; exact h.hx, fun a t b hat hb => ?_⟩
  rw [e]
  refine h.ev a t b ?_ hb
  have := (List.getElem?_eq_some_iff.1 hb).1
  rcases Nat.lt_or_ge a c with h1 | h1
  · exact Or.inl h1
  · obtain rfl : a = c := by omega
    exact Or.inr ⟨rfl, this⟩
theorem st_ne (F : FP) {a c t j b : Nat} (h : a < c ∨ a = c ∧ t < j) (hb : (F.adj a)[t]? = some b) : F.st a + t < F.st c + j := by
  have h1 := (List.getElem?_eq_some_iff.1 hb).1
  rcases h with h | ⟨h, h'⟩
  · have h2 := F.st_mono (show a + 1 ≤ c by omega)
    rw [F.st_succ] at h2
    omega
  · subst h; omega
theorem EdI.up (h : EdI F c j E m xs) (hW : 3 ≤ F.W) {b : Nat} (hb : (F.adj c)[j]? = some b) (hcb : c < b) (hE : F.st c + j < E.size) : EdI F c (j + 1) (E.setIfInBounds (F.st c + j) (.int .i64 (m))) (m + 1) (xs ++ [.int .i64 (c), .int .i64 (b)]) := by
  have e := endsTo_up F hb hcb
  refine ⟨by rw [e, List.length_append, ← h.hm]; rfl, by rw [e, List.flatMap_append, ← h.hx]; rfl, fun a t b' hat hb' => ?_⟩
  rw [e]
  by_cases hne : a = c ∧ t = j
  · obtain ⟨rfl, rfl⟩ := hne
    rw [hb] at hb'
    cases hb'
    rw [Array.getElem?_setIfInBounds_self_of_lt hE]
    refine ⟨by rw [pr_lt hcb]; simp, ?_⟩
    unfold edn
    rw [pr_lt hcb, List.idxOf_append, if_neg (endsTo_new F hW hb), h.hm]
    simp
  · have hat' : a < c ∨ a = c ∧ t < j := by
      rcases hat with h1 | ⟨h1, h2⟩
      · exact Or.inl h1
      · exact Or.inr ⟨h1, by omega⟩
    obtain ⟨h1, h2⟩ := h.ev a t b' hat' hb'
    have h3 := st_ne F hat' hb'
    rw [Array.getElem?_setIfInBounds_ne (by omega), edn_app h1]
    exact ⟨List.mem_append_left _ h1, h2⟩
theorem EdI.dn (h : EdI F c j E m xs) {b x : Nat} (hb : (F.adj c)[j]? = some b) (hcb : ¬ c < b) (hmem : pr c b ∈ F.endsTo c j) (hx : x = edn (F.endsTo c j) c b) (hE : F.st c + j < E.size) : EdI F c (j + 1) (E.setIfInBounds (F.st c + j) (.int .i64 (x))) m xs := by
  have e := endsTo_dn F hb hcb
  refine ⟨by rw [e]; exact h.hm, by rw [e]; exact h.hx, fun a t b' hat hb' => ?_⟩
  rw [e]
  by_cases hne : a = c ∧ t = j
  · obtain ⟨rfl, rfl⟩ := hne
    rw [hb] at hb'
    cases hb'
    rw [Array.getElem?_setIfInBounds_self_of_lt hE]
    exact ⟨hmem, by rw [hx]⟩
  · have hat' : a < c ∨ a = c ∧ t < j := by
      rcases hat with h1 | ⟨h1, h2⟩
      · exact Or.inl h1
      · exact Or.inr ⟨h1, by omega⟩
    have h3 := st_ne F hat' hb'
    rw [Array.getElem?_setIfInBounds_ne (by omega)]
    exact h.ev a t b' hat' hb'
end
/-- entry by place. -/
theorem fnd_get (b : Nat) : ∀ (l : List Nat) (i : Nat), b ∈ l → ∃ t, l[t]? = some b ∧ fnd b l i = ((i + t : Nat) : Int)
  | [], _, h => by cases h
  | x :: l, i, h => by
    by_cases e : x = b
    · exact ⟨0, by simp [e], by simp [fnd, e]⟩
    · obtain ⟨t, h1, h2⟩ := fnd_get b l (i + 1) (by rcases List.mem_cons.1 h with h | h; exact absurd h.symm e; exact h)
      exact ⟨t + 1, by simpa using h1, by simp only [fnd, if_neg e, h2]; omega⟩
theorem ent_get (F : FP) {a b : Nat} (h : b ∈ F.adj a) : ∃ t, (F.adj a)[t]? = some b ∧ F.ent a b = ((F.st a + t : Nat) : Int) := fnd_get b (F.adj a) (F.st a) h
end Go.Proofs.Qxb6500715aFmt
