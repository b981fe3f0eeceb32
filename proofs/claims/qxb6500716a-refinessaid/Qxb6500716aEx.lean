/-
  Every distance of a floor is the length of a walk (plain).
-/
import Derived.Test.Qxb6500716aNn
namespace Go.Proofs.Qxb6500716a
open Go.RowKit Go.Maps
set_option linter.unusedSimpArgs false
set_option linter.unusedVariables false
set_option maxRecDepth 20000
set_option maxHeartbeats 4000000
/-- A walk of m steps over points below n. -/
def wlk (n : Nat) (E : Nat → Nat → Nat) : Nat → Nat → Nat → Prop
  | 0, a, b => a = b
  | m + 1, a, b => ∃ x, x < n ∧ E a x = 1 ∧ wlk n E m x b
theorem wlk_app {n : Nat} {E : Nat → Nat → Nat} : ∀ (m k a v b : Nat), wlk n E m a v → wlk n E k v b → wlk n E (m + k) a b
  | 0, k, a, v, b, h, h2 => by
    have h : a = v := h
    subst h
    rw [Nat.zero_add]
    exact h2
  | m + 1, k, a, v, b, h, h2 => by
    obtain ⟨x, h3, h4, h5⟩ := h
    rw [show m + 1 + k = m + k + 1 by omega]
    exact ⟨x, h3, h4, wlk_app m k x v b h5 h2⟩
theorem fwN_walk {pl bl : List (Int × Int)} {n : Nat} : ∀ k, k ≤ n → ∀ a b, a < n → b < n → fwN (dist0 pl bl) k a b < 1048576 → wlk n (dist0 pl bl) (fwN (dist0 pl bl) k a b) a b
  | 0, _, a, b, ha, hb, h => by
    have e : fwN (dist0 pl bl) 0 a b = dist0 pl bl a b := rfl
    rw [e] at h ⊢
    unfold dist0 at h
    by_cases e1 : a = b
    · have e2 : dist0 pl bl a b = 0 := by unfold dist0; rw [if_pos e1]
      rw [e2]
      exact e1
    · rw [if_neg e1] at h
      by_cases e2 : adjP pl bl a b = true
      · have e3 : dist0 pl bl a b = 1 := by unfold dist0; rw [if_neg e1, if_pos e2]
        rw [e3]
        exact ⟨b, hb, e3, rfl⟩
      · rw [if_neg e2] at h
        omega
  | k + 1, hk, a, b, ha, hb, h => by
    have e : fwN (dist0 pl bl) (k + 1) a b = min (fwN (dist0 pl bl) k a b) (fwN (dist0 pl bl) k a k + fwN (dist0 pl bl) k k b) := rfl
    rw [e] at h ⊢
    by_cases e1 : fwN (dist0 pl bl) k a b ≤ fwN (dist0 pl bl) k a k + fwN (dist0 pl bl) k k b
    · rw [Nat.min_eq_left e1] at h ⊢
      exact fwN_walk k (by omega) a b ha hb h
    · rw [Nat.min_eq_right (by omega)] at h ⊢
      exact wlk_app _ _ a k b (fwN_walk k (by omega) a k ha (by omega) (by omega)) (fwN_walk k (by omega) k b (by omega) hb (by omega))
section
variable {A P W H : Nat} {bl : List (Int × Int)}
theorem of_le (a b : Nat) : (FS.of A P W H bl).dist a b ≤ dist0 (rowsP (opn A P W H bl) W H) bl a b := (Fwd.all (dist0_zero _ bl) (dist0_pos _ bl) _).le a b
theorem of_tri (a b v : Nat) (hv : v < (FS.of A P W H bl).n) : (FS.of A P W H bl).dist a b ≤ (FS.of A P W H bl).dist a v + (FS.of A P W H bl).dist v b := fwN_tri (dist0_zero _ bl) (dist0_pos _ bl) _ v hv a b
theorem of_zero (a : Nat) : (FS.of A P W H bl).dist a a = 0 := (Fwd.all (dist0_zero _ bl) (dist0_pos _ bl) _).zero a
theorem wlk_le : ∀ (m a b : Nat), wlk (FS.of A P W H bl).n (dist0 (rowsP (opn A P W H bl) W H) bl) m a b → (FS.of A P W H bl).dist a b ≤ m
  | 0, a, b, h => by
    have h : a = b := h
    subst h
    rw [of_zero]
    exact Nat.le_refl _
  | m + 1, a, b, h => by
    obtain ⟨x, h1, h2, h3⟩ := h
    have i1 := wlk_le m x b h3
    have i2 := of_tri (A := A) (P := P) (W := W) (H := H) (bl := bl) a b x h1
    have i3 := of_le (A := A) (P := P) (W := W) (H := H) (bl := bl) a x
    omega
/-- From a cell there is a step towards any other that is not out of reach. -/
theorem of_step (a b : Nat) (ha : a < (FS.of A P W H bl).n) (hb : b < (FS.of A P W H bl).n) (hab : a ≠ b) (h : (FS.of A P W H bl).dist a b < 1048576) : ∃ x, x < (FS.of A P W H bl).n ∧ (x : Int) ∈ (FS.of A P W H bl).near a ∧ (FS.of A P W H bl).dist x b + 1 = (FS.of A P W H bl).dist a b := by
  have hw := fwN_walk (pl := rowsP (opn A P W H bl) W H) (bl := bl) (n := (FS.of A P W H bl).n) (FS.of A P W H bl).n (Nat.le_refl _) a b ha hb h
  have e : fwN (dist0 (rowsP (opn A P W H bl) W H) bl) (FS.of A P W H bl).n a b = (FS.of A P W H bl).dist a b := rfl
  rw [e] at hw
  cases hd : (FS.of A P W H bl).dist a b with
  | zero =>
    rw [hd] at hw
    exact absurd hw hab
  | succ m =>
    rw [hd] at hw
    obtain ⟨x, h1, h2, h3⟩ := hw
    have i1 := wlk_le m x b h3
    have i2 := of_tri (A := A) (P := P) (W := W) (H := H) (bl := bl) a b x h1
    have i3 := of_le (A := A) (P := P) (W := W) (H := H) (bl := bl) a x
    refine ⟨x, h1, ?_, by omega⟩
    show (x : Int) ∈ nearP _ _ _ _
    rw [nearP_mem]
    refine ⟨x, h1, rfl, ?_⟩
    unfold dist0 at h2
    split at h2
    · cases h2
    · split at h2
      · assumption
      · cases h2
/-- The cell at p is at most k steps from cell z, and back. -/
def Nrd (A P W H : Nat) (bl : List (Int × Int)) (z : Nat) (p : Int × Int) (k : Nat) : Prop := ∀ a, (rowsP (opn A P W H bl) W H)[a]? = some p → (FS.of A P W H bl).dist a z ≤ k ∧ (FS.of A P W H bl).dist z a ≤ k
theorem Nrd.mono {z k k' : Nat} {p : Int × Int} (h : Nrd A P W H bl z p k) (hk : k ≤ k') : Nrd A P W H bl z p k' := fun a ha => by have := h a ha; omega
theorem adj_one {a b : Nat} {p q : Int × Int} (ha : (rowsP (opn A P W H bl) W H)[a]? = some p) (hb : (rowsP (opn A P W H bl) W H)[b]? = some q) (hqb : q ∉ bl) (h1 : (p.1 - q.1) * (p.1 - q.1) + (p.2 - q.2) * (p.2 - q.2) = 1) : (FS.of A P W H bl).dist a b ≤ 1 ∧ (FS.of A P W H bl).dist b a ≤ 1 := by
  have e1 : plAt (rowsP (opn A P W H bl) W H) a = p := by unfold plAt; rw [List.getD_eq_getElem?_getD, ha]; rfl
  have e2 : plAt (rowsP (opn A P W H bl) W H) b = q := by unfold plAt; rw [List.getD_eq_getElem?_getD, hb]; rfl
  have hq : isB bl q = false := by
    cases hi : isB bl q with
    | false => rfl
    | true => exact absurd (isB_iff.2 hi) hqb
  have h2 : (q.1 - p.1) * (q.1 - p.1) + (q.2 - p.2) * (q.2 - p.2) = 1 := by
    rw [show q.1 - p.1 = -(p.1 - q.1) by omega, show q.2 - p.2 = -(p.2 - q.2) by omega, Int.neg_mul_neg, Int.neg_mul_neg]
    exact h1
  have a1 : adjP (rowsP (opn A P W H bl) W H) bl a b = true := by
    unfold adjP
    rw [e1, e2, hq]
    simp [h1]
  have a2 : adjP (rowsP (opn A P W H bl) W H) bl b a = true := by
    unfold adjP
    rw [e1, e2, hq]
    simp [h2]
  have i1 := of_le (A := A) (P := P) (W := W) (H := H) (bl := bl) a b
  have i2 := of_le (A := A) (P := P) (W := W) (H := H) (bl := bl) b a
  have j1 : dist0 (rowsP (opn A P W H bl) W H) bl a b ≤ 1 := by unfold dist0; split; omega; first | omega | (rw [if_pos a1]; omega)
  have j2 : dist0 (rowsP (opn A P W H bl) W H) bl b a ≤ 1 := by unfold dist0; split; omega; first | omega | (rw [if_pos a2]; omega)
  omega
/-- One step more. -/
theorem Nrd.hop {z k : Nat} {p q : Int × Int} (h : Nrd A P W H bl z q k) (hq : q ∈ rowsP (opn A P W H bl) W H) (hqb : q ∉ bl) (h1 : (p.1 - q.1) * (p.1 - q.1) + (p.2 - q.2) * (p.2 - q.2) = 1) : Nrd A P W H bl z p (k + 1) := by
  intro a ha
  obtain ⟨b, hb, hbe⟩ := List.getElem_of_mem hq
  have hb' : (rowsP (opn A P W H bl) W H)[b]? = some q := by rw [List.getElem?_eq_getElem hb, hbe]
  obtain ⟨i1, i2⟩ := h b hb'
  obtain ⟨j1, j2⟩ := adj_one ha hb' hqb h1
  have t1 := of_tri (A := A) (P := P) (W := W) (H := H) (bl := bl) a z b hb
  have t2 := of_tri (A := A) (P := P) (W := W) (H := H) (bl := bl) z a b hb
  omega
end
theorem conn {A P W H : Nat} {l : List Int} {bl : List (Int × Int)} (hb : bayL A P W H l [] = some bl) (hH : 5 ≤ H ∧ H ≤ 16) (hW : W = (A - 1) * P + 3) (hW2 : W ≤ 24) (hA : 1 ≤ A) (a b : Nat) (ha : a < (FS.of A P W H bl).n) (hb2 : b < (FS.of A P W H bl).n) : (FS.of A P W H bl).dist a b < 1048576 := by
  have hs := (bays_spec l [] bl hb).2
  have ho := bays_out l [] bl hb (fun p hp => by cases hp)
  have mk : ∀ q : Int × Int, lopn A P W H q.1 q.2 → 0 ≤ q.1 → q.1 < (H : Int) → 0 ≤ q.2 → q.2 < (W : Int) → q ∈ rowsP (opn A P W H bl) W H ∧ q ∉ bl := fun q h1 h2 h3 h4 h5 => by
    refine ⟨?_, fun h => ho q h h1⟩
    rw [rowsP_mem]
    exact ⟨h2, h3, h4, h5, opn_iff.1 (Or.inl h1)⟩
  have hcol : ∀ b : Nat, b < A → (0 : Int) ≤ (b : Int) * (P : Int) ∧ (1 : Int) + (b : Int) * (P : Int) < (W : Int) := fun b hb => by
    have h1 : b * P ≤ (A - 1) * P := Nat.mul_le_mul_right P (by omega)
    have h2 : ((b * P : Nat) : Int) = (b : Int) * (P : Int) := by simp
    omega
  -- the cross aisles
  have cr : ∀ (r c : Int), (r = 1 ∨ r = (H : Int) - 2) → 0 ≤ c → c < (W : Int) → (r, c) ∈ rowsP (opn A P W H bl) W H ∧ (r, c) ∉ bl := fun r c hr h1 h2 => mk (r, c) (Or.inl ⟨h1, h2, hr⟩) (by simp only; omega) (by simp only; omega) h1 h2
  obtain ⟨z, hz, hze⟩ := List.getElem_of_mem (cr 1 1 (Or.inl rfl) (by omega) (by omega)).1
  have hz' : (rowsP (opn A P W H bl) W H)[z]? = some ((1 : Int), (1 : Int)) := by rw [List.getElem?_eq_getElem hz, hze]
  have hd := rowsP_nodup (opn A P W H bl) W H
  have r0 : Nrd A P W H bl z (1, 1) 0 := by
    intro a ha
    have : a = z := by
      obtain ⟨l1, e1⟩ := List.getElem?_eq_some_iff.1 ha
      rcases Nat.lt_trichotomy a z with h | h | h
      · exact absurd (e1.trans hze.symm) ((List.pairwise_iff_getElem.1 hd) a z l1 hz h)
      · exact h
      · exact absurd (hze.trans e1.symm) ((List.pairwise_iff_getElem.1 hd) z a hz l1 h)
    subst this
    rw [of_zero]
    omega
  -- along a cross aisle
  have row : ∀ (r : Int) (m : Nat), (r = 1 ∨ r = (H : Int) - 2) → Nrd A P W H bl z (r, 1) m → ∀ c : Int, 0 ≤ c → c < (W : Int) → Nrd A P W H bl z (r, c) (m + W) := by
    intro r m hr h0
    have up : ∀ j : Nat, (1 : Int) + j < (W : Int) → Nrd A P W H bl z (r, 1 + (j : Int)) (m + j) := by
      intro j
      induction j with
      | zero => intro _; exact h0
      | succ j ih =>
        intro hj
        obtain ⟨q1, q2⟩ := cr r (1 + (j : Int)) hr (by omega) (by omega)
        refine (ih (by omega)).hop q1 q2 ?_
        simp only
        rw [show r - r = 0 by omega, show (1 : Int) + ((j + 1 : Nat) : Int) - (1 + (j : Int)) = 1 by omega]
        rfl
    intro c hc1 hc2
    by_cases e : c = 0
    · subst e
      obtain ⟨q1, q2⟩ := cr r 1 hr (by omega) (by omega)
      refine (h0.hop q1 q2 ?_).mono (by omega)
      simp only
      rw [show r - r = 0 by omega]
      rfl
    · have := up (c - 1).toNat (by omega)
      rw [show (1 : Int) + ((c - 1).toNat : Int) = c by omega] at this
      exact this.mono (by omega)
  have row1 := row 1 0 (Or.inl rfl) r0
  -- down an aisle
  have ais : ∀ b : Nat, b < A → ∀ j : Nat, (1 : Int) + j < (H : Int) - 2 → Nrd A P W H bl z (1 + (j : Int), 1 + (b : Int) * (P : Int)) (W + j) := by
    intro b hb3 j
    have hc := hcol b hb3
    induction j with
    | zero =>
      intro _
      have := row1 (1 + (b : Int) * (P : Int)) (by omega) hc.2
      rw [Nat.zero_add] at this
      exact this
    | succ j ih =>
      intro hj
      have hq : lopn A P W H (1 + (j : Int)) (1 + (b : Int) * (P : Int)) := by
        by_cases e : j = 0
        · subst e
          exact Or.inl ⟨by omega, hc.2, Or.inl rfl⟩
        · exact Or.inr ⟨by omega, by omega, b, hb3, rfl⟩
      obtain ⟨q1, q2⟩ := mk (1 + (j : Int), 1 + (b : Int) * (P : Int)) hq (by simp only; omega) (by simp only; omega) (by simp only; omega) hc.2
      refine (ih (by omega)).hop q1 q2 ?_
      simp only
      rw [show (1 : Int) + ((j + 1 : Nat) : Int) - (1 + (j : Int)) = 1 by omega, show 1 + (b : Int) * (P : Int) - (1 + (b : Int) * (P : Int)) = 0 by omega]
      rfl
  -- the back cross aisle
  have bk1 : Nrd A P W H bl z ((H : Int) - 2, 1) (W + H) := by
    have h1 := ais 0 (by omega) (H - 4) (by omega)
    rw [show (1 : Int) + ((0 : Nat) : Int) * (P : Int) = 1 by simp, show (1 : Int) + ((H - 4 : Nat) : Int) = (H : Int) - 3 by omega] at h1
    obtain ⟨q1, q2⟩ := mk ((H : Int) - 3, 1) (Or.inr ⟨by simp only; omega, by simp only; omega, 0, by omega, by simp⟩) (by simp only; omega) (by simp only; omega) (by simp only; omega) (by simp only; omega)
    refine (h1.hop q1 q2 ?_).mono (by omega)
    simp only
    rw [show (H : Int) - 2 - ((H : Int) - 3) = 1 by omega]
    rfl
  have row2 := row ((H : Int) - 2) (W + H) (Or.inr rfl) bk1
  have all : ∀ p : Int × Int, p ∈ rowsP (opn A P W H bl) W H → Nrd A P W H bl z p (3 * W + H + 1) := by
    intro p hp
    rw [rowsP_mem] at hp
    obtain ⟨m1, m2, m3, m4, m5⟩ := hp
    obtain ⟨r, c⟩ := p
    simp only at m1 m2 m3 m4 m5
    rcases opn_iff.2 m5 with (⟨h1, h2, h3⟩ | ⟨h1, h2, b, h3, h4⟩) | h
    · rcases h3 with rfl | rfl
      · exact (row1 c h1 h2).mono (by omega)
      · exact (row2 c h1 h2).mono (by omega)
    · have := ais b h3 (r - 1).toNat (by omega)
      rw [show (1 : Int) + ((r - 1).toNat : Int) = r by omega, ← h4] at this
      exact this.mono (by omega)
    · rcases hs (r, c) h with h1 | ⟨b, h1, h2, h3⟩
      · cases h1
      · unfold bpl at h3
        split at h3
        · simp only [Prod.mk.injEq] at h3
          obtain ⟨q1, q2⟩ := cr ((H : Int) - 2) c (Or.inr rfl) m3 m4
          refine ((row2 c m3 m4).hop q1 q2 ?_).mono (by omega)
          simp only
          rw [h3.1, show (H : Int) - 1 - (H - 2) = 1 by omega, show c - c = 0 by omega]
          rfl
        · simp only [Prod.mk.injEq] at h3
          obtain ⟨q1, q2⟩ := cr 1 c (Or.inl rfl) m3 m4
          refine ((row1 c m3 m4).hop q1 q2 ?_).mono (by omega)
          simp only
          rw [h3.1, show (0 : Int) - 1 = -1 by omega, show c - c = 0 by omega]
          rfl
  have ha' : a < (rowsP (opn A P W H bl) W H).length := ha
  have hb' : b < (rowsP (opn A P W H bl) W H).length := hb2
  have g1 := (all _ (List.getElem_mem ha') a (List.getElem?_eq_getElem ha')).1
  have g2 := (all _ (List.getElem_mem hb') b (List.getElem?_eq_getElem hb')).2
  have t := of_tri (A := A) (P := P) (W := W) (H := H) (bl := bl) a b z hz
  omega
/-- Every distance is that of a walk. -/
def FEx (F : FS) : Prop := ∀ a b, a < F.n → b < F.n → a ≠ b → ∃ x, x < F.n ∧ (x : Int) ∈ F.near a ∧ F.dist x b + 1 = F.dist a b
theorem new_ex {A S P : Int} {l : List Int} {F : FS} (h : FS.new A S P l = some F) : FEx F := by
  unfold FS.new at h
  split at h
  · cases h
  · rename_i e
    obtain ⟨bl, hb, rfl⟩ := Option.map_eq_some_iff.1 h
    intro a b ha hb2 hab
    refine of_step a b ha hb2 hab ?_
    obtain ⟨A', rfl⟩ : ∃ y : Nat, A = y := ⟨A.toNat, by omega⟩
    obtain ⟨P', rfl⟩ : ∃ y : Nat, P = y := ⟨P.toNat, by omega⟩
    obtain ⟨A'', rfl⟩ : ∃ y : Nat, A' = y + 1 := ⟨A' - 1, by omega⟩
    have hm : ((A'' * P' : Nat) : Int) = (A'' : Int) * (P' : Int) := by simp
    have hm2 : A'' * P' ≤ 7 * 3 := Nat.mul_le_mul (by omega) (by omega)
    refine conn hb ⟨by omega, by omega⟩ ?_ ?_ (by omega) a b ha hb2
    · unfold wid
      simp only [Int.toNat_natCast, Nat.add_sub_cancel]
      rw [show ((A'' + 1 : Nat) : Int) - 1 = (A'' : Int) by omega]
      omega
    · unfold wid
      rw [show ((A'' + 1 : Nat) : Int) - 1 = (A'' : Int) by omega]
      omega
end Go.Proofs.Qxb6500716a
