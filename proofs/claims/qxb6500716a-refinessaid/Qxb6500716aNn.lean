/-
  Every cell of a floor has a neighbour (plain).
-/
import Derived.Test.Qxb6500716aFp
namespace Go.Proofs.Qxb6500716a
open Go.RowKit Go.Maps
set_option linter.unusedSimpArgs false
set_option linter.unusedVariables false
set_option maxRecDepth 20000
set_option maxHeartbeats 4000000
theorem bays_out {A P W H : Nat} : ∀ (l : List Int) (bl bl' : List (Int × Int)), bayL A P W H l bl = some bl' → (∀ p, p ∈ bl → ¬ lopn A P W H p.1 p.2) → ∀ p, p ∈ bl' → ¬ lopn A P W H p.1 p.2
  | [], bl, bl', h, h0 => by
    rw [bayL] at h
    obtain rfl := Option.some.inj h
    exact h0
  | b :: l, bl, bl', h, h0 => by
    rw [bayL] at h
    split at h
    · cases h
    · rename_i e
      refine bays_out l _ bl' h (fun p hp => ?_)
      rcases List.mem_append.1 hp with h1 | h1
      · exact h0 p h1
      · rw [List.mem_singleton] at h1
        rw [h1]
        exact fun h2 => e (Or.inr (Or.inr (Or.inl h2)))
theorem near_of {A P W H : Nat} {bl : List (Int × Int)} {a : Nat} {p q : Int × Int} (ha : (rowsP (opn A P W H bl) W H)[a]? = some p) (hq : q ∈ rowsP (opn A P W H bl) W H) (hqb : q ∉ bl ∨ p ∉ bl) (h1 : (p.1 - q.1) * (p.1 - q.1) + (p.2 - q.2) * (p.2 - q.2) = 1) : (FS.of A P W H bl).near a ≠ [] := by
  obtain ⟨b, hb, hbe⟩ := List.getElem_of_mem hq
  refine List.ne_nil_of_mem (a := (b : Int)) ?_
  simp only [FS.of]
  rw [nearP_mem]
  refine ⟨b, hb, rfl, ?_⟩
  have e1 : plAt (rowsP (opn A P W H bl) W H) a = p := by unfold plAt; rw [List.getD_eq_getElem?_getD, ha]; rfl
  have e2 : plAt (rowsP (opn A P W H bl) W H) b = q := by unfold plAt; rw [List.getD_eq_getElem?_getD, List.getElem?_eq_getElem hb, hbe]; rfl
  unfold adjP
  rw [e1, e2]
  simp only [Bool.and_eq_true, decide_eq_true_eq, Bool.not_eq_true', Bool.and_eq_false_imp]
  refine ⟨h1, fun h => ?_⟩
  rcases hqb with h2 | h2
  · cases hi : isB bl q with
    | false => rfl
    | true => exact absurd (isB_iff.2 hi) h2
  · exact absurd (isB_iff.2 h) h2
theorem near_some {A P W H : Nat} {l : List Int} {bl : List (Int × Int)} (hb : bayL A P W H l [] = some bl) (hH : 5 ≤ H) (hW : W = (A - 1) * P + 3) (hA : 1 ≤ A) (a : Nat) (ha : a < (FS.of A P W H bl).n) : (FS.of A P W H bl).near a ≠ [] := by
  have hs := (bays_spec l [] bl hb).2
  have ho := bays_out l [] bl hb (fun p hp => by cases hp)
  have ha' : a < (rowsP (opn A P W H bl) W H).length := ha
  obtain ⟨p, hp⟩ : ∃ p, (rowsP (opn A P W H bl) W H)[a]? = some p := ⟨_, List.getElem?_eq_getElem ha'⟩
  have hm : p ∈ rowsP (opn A P W H bl) W H := List.mem_of_getElem? hp
  rw [rowsP_mem] at hm
  obtain ⟨m1, m2, m3, m4, m5⟩ := hm
  have hcol : ∀ b : Nat, b < A → (1 : Int) + (b : Int) * (P : Int) < (W : Int) := fun b hb => by
    have h1 : b * P ≤ (A - 1) * P := Nat.mul_le_mul_right P (by omega)
    have h2 : ((b * P : Nat) : Int) = (b : Int) * (P : Int) := by simp
    omega
  obtain ⟨r, c⟩ := p
  simp only at m1 m2 m3 m4 m5
  have mk : ∀ q : Int × Int, lopn A P W H q.1 q.2 → 0 ≤ q.1 → q.1 < (H : Int) → 0 ≤ q.2 → q.2 < (W : Int) → q ∈ rowsP (opn A P W H bl) W H ∧ q ∉ bl := fun q h1 h2 h3 h4 h5 => by
    refine ⟨?_, fun h => ho q h h1⟩
    rw [rowsP_mem]
    exact ⟨h2, h3, h4, h5, opn_iff.1 (Or.inl h1)⟩
  rcases opn_iff.2 m5 with (⟨h1, h2, h3⟩ | ⟨h1, h2, b, h3, h4⟩) | h
  · by_cases e : c + 1 < (W : Int)
    · obtain ⟨k1, k2⟩ := mk (r, c + 1) (Or.inl ⟨by simp only; omega, by simp only; omega, h3⟩) m1 m2 (by simp only; omega) (by simp only; omega)
      refine near_of hp k1 (Or.inl k2) ?_
      simp only
      rw [show r - r = 0 by omega, show c - (c + 1) = -1 by omega]
      rfl
    · obtain ⟨k1, k2⟩ := mk (r, c - 1) (Or.inl ⟨by simp only; omega, by simp only; omega, h3⟩) m1 m2 (by simp only; omega) (by simp only; omega)
      refine near_of hp k1 (Or.inl k2) ?_
      simp only
      rw [show r - r = 0 by omega, show c - (c - 1) = 1 by omega]
      rfl
  · have hc := hcol b h3
    have hc0 : (0 : Int) ≤ (b : Int) * (P : Int) := by
      have : ((b * P : Nat) : Int) = (b : Int) * (P : Int) := by simp
      omega
    have hl : lopn A P W H (r - 1) c := by
      by_cases e : r = 2
      · exact Or.inl ⟨m3, m4, Or.inl (by omega)⟩
      · exact Or.inr ⟨by omega, by omega, b, h3, h4⟩
    obtain ⟨k1, k2⟩ := mk (r - 1, c) hl (by simp only; omega) (by simp only; omega) m3 m4
    refine near_of hp k1 (Or.inl k2) ?_
    simp only
    rw [show r - (r - 1) = 1 by omega, show c - c = 0 by omega]
    rfl
  · rcases hs (r, c) h with h1 | ⟨b, h1, h2, h3⟩
    · cases h1
    · unfold bpl at h3
      split at h3
      · rename_i e
        simp only [Prod.mk.injEq] at h3
        obtain ⟨k1, k2⟩ := mk ((H : Int) - 2, c) (Or.inl ⟨m3, m4, Or.inr rfl⟩) (by simp only; omega) (by simp only; omega) m3 m4
        refine near_of hp k1 (Or.inl k2) ?_
        simp only
        rw [h3.1, show (H : Int) - 1 - (H - 2) = 1 by omega, show c - c = 0 by omega]
        rfl
      · rename_i e
        simp only [Prod.mk.injEq] at h3
        obtain ⟨k1, k2⟩ := mk (1, c) (Or.inl ⟨m3, m4, Or.inl rfl⟩) (by simp only; omega) (by simp only; omega) m3 m4
        refine near_of hp k1 (Or.inl k2) ?_
        simp only
        rw [h3.1, show (0 : Int) - 1 = -1 by omega, show c - c = 0 by omega]
        rfl
theorem new_near {A S P : Int} {l : List Int} {F : FS} (h : FS.new A S P l = some F) (a : Nat) (ha : a < F.n) : F.near a ≠ [] := by
  unfold FS.new at h
  split at h
  · cases h
  · rename_i e
    obtain ⟨bl, hb, rfl⟩ := Option.map_eq_some_iff.1 h
    refine near_some hb (by omega) ?_ (by omega) a ha
    unfold wid
    obtain ⟨A', rfl⟩ : ∃ y : Nat, A = y := ⟨A.toNat, by omega⟩
    obtain ⟨P', rfl⟩ : ∃ y : Nat, P = y := ⟨P.toNat, by omega⟩
    obtain ⟨A'', rfl⟩ : ∃ y : Nat, A' = y + 1 := ⟨A' - 1, by omega⟩
    simp only [Int.toNat_natCast, Nat.add_sub_cancel]
    rw [show ((A'' + 1 : Nat) : Int) - 1 = (A'' : Int) by omega]
    have : ((A'' * P' : Nat) : Int) = (A'' : Int) * (P' : Int) := by simp
    omega
end Go.Proofs.Qxb6500716a
