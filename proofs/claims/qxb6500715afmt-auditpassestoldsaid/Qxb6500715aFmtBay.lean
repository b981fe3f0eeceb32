/-
  The bays, plain: one gate each; the other cells hang together without them.
-/
import Derived.Test.Qxb6500715aFmtSlot
namespace Go.Proofs.Qxb6500715aFmt
open Go.RowKit
set_option linter.unusedSimpArgs false
set_option linter.unusedVariables false

/-- A set that holds every neighbour that is no bay of its members. -/
def ClosedN (F : FP) (T : Nat → Prop) : Prop := ∀ c b, c < F.N → T c → b ∈ F.adj c → F.kd (F.pl b) ≠ 7 → T b

section
variable {F : FP} (hp : Pln F)

theorem stepN (hp : Pln F) {T : Nat → Prop} (hT : ClosedN F T) {r q r' q' j : Nat} (hj : j < 4) (hr : r < F.S + 4) (hq : q < F.W) (hr' : r' < F.S + 4) (hq' : q' < F.W) (hd : drv (F.kd (r * F.W + q)) = true) (hd' : drv (F.kd (r' * F.W + q')) = true)
    (h7 : F.kd (r' * F.W + q') ≠ 7) (hs : sh (r : Int) (q : Int) ((j : Int) + 1) = ((r' : Int), (q' : Int))) (h : T (F.id (r * F.W + q))) : T (F.id (r' * F.W + q')) := by
  obtain ⟨h1, h2, h3, h4⟩ := id_spec hp.pl hr hq hd
  refine hT _ _ h1 h ((adj_iff hp.pl h1).2 ⟨j, r', q', hj, ?_, hr', hq', hd', by rw [h2]; exact fun h => h7 h.2, rfl⟩) (by rw [(id_spec hp.pl hr' hq' hd').2.1]; exact h7)
  unfold FP.to
  rw [h3, h4]; exact hs
theorem vertN (hp : Pln F) {T : Nat → Prop} (hT : ClosedN F T) {r q : Nat} (hr : r + 1 < F.S + 4) (hq : q < F.W) (hd : drv (F.kd (r * F.W + q)) = true ∧ F.kd (r * F.W + q) ≠ 7) (hd' : drv (F.kd ((r + 1) * F.W + q)) = true ∧ F.kd ((r + 1) * F.W + q) ≠ 7) :
    T (F.id (r * F.W + q)) ↔ T (F.id ((r + 1) * F.W + q)) :=
  ⟨stepN hp hT (j := 3) (by omega) (by omega) hq hr hq hd.1 hd'.1 hd'.2 (by simp [sh]), stepN hp hT (j := 0) (by omega) hr hq (by omega) hq hd'.1 hd.1 hd.2 (by simp [sh])⟩
theorem horizN (hp : Pln F) {T : Nat → Prop} (hT : ClosedN F T) {r q : Nat} (hr : r < F.S + 4) (hq : q + 1 < F.W) (hd : drv (F.kd (r * F.W + q)) = true ∧ F.kd (r * F.W + q) ≠ 7) (hd' : drv (F.kd (r * F.W + (q + 1))) = true ∧ F.kd (r * F.W + (q + 1)) ≠ 7) :
    T (F.id (r * F.W + q)) ↔ T (F.id (r * F.W + (q + 1))) :=
  ⟨stepN hp hT (j := 2) (by omega) hr (by omega) hr hq hd.1 hd'.1 hd'.2 (by simp [sh]), stepN hp hT (j := 1) (by omega) hr hq hr (by omega) hd'.1 hd.1 hd.2 (by simp [sh])⟩
theorem row_allN (hp : Pln F) {T : Nat → Prop} (hT : ClosedN F T) {r : Nat} (hr : r < F.S + 4) (hk : ∀ q, q < F.W → drv (F.kd (r * F.W + q)) = true ∧ F.kd (r * F.W + q) ≠ 7) : ∀ q, q < F.W → (T (F.id (r * F.W + q)) ↔ T (F.id (r * F.W + 0))) := by
  intro q
  induction q with
  | zero => intro _; exact Iff.rfl
  | succ q ih => intro hq; exact (horizN hp hT hr hq (hk q (by omega)) (hk _ hq)).symm.trans (ih (by omega))
theorem col_allN (hp : Pln F) {T : Nat → Prop} (hT : ClosedN F T) {q : Nat} (hq : q < F.W) (hA : F.isA q) : ∀ r, 1 ≤ r → r ≤ F.S + 2 → (T (F.id (r * F.W + q)) ↔ T (F.id (1 * F.W + q))) := by
  have hk : ∀ r, 1 ≤ r → r ≤ F.S + 2 → drv (F.kd (r * F.W + q)) = true ∧ F.kd (r * F.W + q) ≠ 7 := fun r h1 h2 => by
    rcases (by omega : r = 1 ∨ r = F.S + 2 ∨ (2 ≤ r ∧ r < F.S + 2)) with rfl | rfl | h
    · rw [k_front hp hq]; simp [drv]
    · rw [k_back hp hq]; simp [drv]
    · rw [(k_mid hp h hq).1 hA]; simp [drv]
  intro r
  induction r with
  | zero => intro h; omega
  | succ r ih =>
    intro h1 h2
    by_cases hr : r = 0
    · subst hr; exact Iff.rfl
    · exact (vertN hp hT (by omega) hq (hk r (by omega) (by omega)) (hk _ h1 h2)).symm.trans (ih (by omega) (by omega))
theorem all_oneN (hp : Pln F) {T : Nat → Prop} (hT : ClosedN F T) {r q : Nat} (hr : r < F.S + 4) (hq : q < F.W) (hd : drv (F.kd (r * F.W + q)) = true) (h7 : F.kd (r * F.W + q) ≠ 7) : T (F.id (r * F.W + q)) ↔ T (F.id (1 * F.W + 0)) := by
  have hS := hp.lay.hS
  have hW3 : 3 ≤ F.W := by rw [hp.hW]; omega
  have hf := row_allN hp hT (r := 1) (by omega) (fun q hq => by rw [k_front hp hq]; simp [drv])
  have hb := row_allN hp hT (r := F.S + 2) (by omega) (fun q hq => by rw [k_back hp hq]; simp [drv])
  rcases (by omega : r = 0 ∨ r = 1 ∨ (2 ≤ r ∧ r < F.S + 2) ∨ r = F.S + 2 ∨ r = F.S + 3) with rfl | rfl | h | rfl | rfl
  · exact absurd (k_apron hp (Or.inl rfl) hq hd) h7
  · exact hf q hq
  · by_cases hA : F.isA q
    · exact (col_allN hp hT hq hA r (by omega) (by omega)).trans (hf q hq)
    · rw [(k_mid hp h hq).2 hA] at hd; cases hd
  · exact ((hb q hq).trans (hb 1 (by omega)).symm).trans ((col_allN hp hT (by omega) (isA_one hp) (F.S + 2) (by omega) (by omega)).trans (hf 1 (by omega)))
  · exact absurd (k_apron hp (Or.inr rfl) hq hd) h7
theorem connN (hp : Pln F) {T : Nat → Prop} (hT : ClosedN F T) {s : Nat} (hs : s < F.N) (hs7 : F.kd (F.pl s) ≠ 7) (h : T s) : ∀ c, c < F.N → F.kd (F.pl c) ≠ 7 → T c := by
  have key : ∀ c, c < F.N → F.kd (F.pl c) ≠ 7 → (T c ↔ T (F.id (1 * F.W + 0))) := fun c hc h7 => by
    obtain ⟨h1, h2, h3, h4, h5, h6⟩ := pl_spec hp.pl hc
    have := all_oneN hp hT h4 h5 (by rw [h6]; exact h2) (by rw [h6]; exact h7)
    rwa [h6, h3] at this
  exact fun c hc h7 => (key c hc h7).2 ((key s hs hs7).1 h)

/-! the bays -/
theorem bay_spec (hp : Pln F) {r : Nat} (hr : r < F.n) : (F.px r < F.S + 4 ∧ F.py r < F.W) ∧ F.kd (F.px r * F.W + F.py r) = 7 ∧ F.bay r < F.N ∧ F.pl (F.bay r) = F.px r * F.W + F.py r ∧ F.pl (F.bay r) / F.W = F.px r ∧ F.pl (F.bay r) % F.W = F.py r := by
  have h1 := (hp.lay.hx r hr).1
  have h2 : F.py r < F.W := by rw [hp.hW]; exact (hp.lay.hx r hr).2
  have hk : F.kd (F.px r * F.W + F.py r) = 7 := by
    rw [hp.kind _ _ (by omega) h2, kind3, if_pos ((isBay_iff _ _ _ _ _).2 ⟨r, hr, rfl, rfl⟩)]
  have hs := id_spec hp.pl (r := F.px r) (q := F.py r) (by omega) h2 (by rw [hk]; rfl)
  exact ⟨⟨by omega, h2⟩, hk, hs.1, hs.2.1, hs.2.2.1, hs.2.2.2⟩
theorem bay_inj (hp : Pln F) {r r' : Nat} (hr : r < F.n) (hr' : r' < F.n) (h : F.bay r = F.bay r') : r = r' := by
  have a := bay_spec hp hr
  have b := bay_spec hp hr'
  rw [h] at a
  have e1 : F.px r = F.px r' := a.2.2.2.2.1.symm.trans b.2.2.2.2.1
  have e2 : F.py r = F.py r' := a.2.2.2.2.2.symm.trans b.2.2.2.2.2
  rcases Nat.lt_trichotomy r r' with h1 | h1 | h1
  · exact absurd ⟨e1, e2⟩ (hp.lay.hne r' r h1 hr')
  · exact h1
  · exact absurd ⟨e1.symm, e2.symm⟩ (hp.lay.hne r r' h1 hr)
theorem bay_of (hp : Pln F) {c : Nat} (hc : c < F.N) (h7 : F.kd (F.pl c) = 7) : ∃ r, r < F.n ∧ F.bay r = c := by
  obtain ⟨h1, h2, h3, h4, h5, h6⟩ := pl_spec hp.pl hc
  have hk := hp.kind _ _ h4 h5
  rw [h6, h7, kind3] at hk
  split at hk
  · rename_i hb
    obtain ⟨i, hi, e1, e2⟩ := (isBay_iff _ _ _ _ _).1 hb
    refine ⟨i, hi, ?_⟩
    rw [FP.bay, e1, e2, h6]; exact h3
  · unfold kind2 kind1 at hk
    split at hk
    · split at hk
      · cases hk
      · split at hk <;> cases hk
    · split at hk
      · cases hk
      · split at hk
        · cases hk
        · cases hk
theorem ownr_iff (F : FP) (n c : Nat) : 0 ≤ ownr F.kd F.W F.px F.py n c ↔ ∃ r, r < n ∧ F.bay r = c := by
  induction n with
  | zero => simp [ownr]
  | succ n ih =>
    simp only [ownr]
    by_cases h : cnt (fun t => drv (F.kd t)) (F.px n * F.W + F.py n) = c
    · rw [if_pos h]; exact ⟨fun _ => ⟨n, by omega, h⟩, fun _ => by omega⟩
    · rw [if_neg h, ih]; constructor
      · rintro ⟨r, h1, h2⟩; exact ⟨r, by omega, h2⟩
      · rintro ⟨r, h1, h2⟩
        by_cases hr : r = n
        · subst hr; exact absurd h2 h
        · exact ⟨r, by omega, h2⟩
theorem own_bay (hp : Pln F) {c : Nat} (hc : c < F.N) : decide (0 ≤ ownr F.kd F.W F.px F.py F.n c) = decide (F.kd (F.pl c) = 7) := by
  rw [decide_eq_decide, ownr_iff]
  constructor
  · rintro ⟨r, hr, rfl⟩
    have := bay_spec hp hr
    rw [this.2.2.2.1]; exact this.2.1
  · exact bay_of hp hc

/-- A bay's one gate. -/
theorem bay_adj (hp : Pln F) {r : Nat} (hr : r < F.n) : ∃ g, F.adj (F.bay r) = [g] ∧ g < F.N ∧ (F.kd (F.pl g) = 5 ∨ F.kd (F.pl g) = 6) := by
  obtain ⟨⟨b1, b2⟩, b3, b4, b5, b6, b7⟩ := bay_spec hp hr
  have hS := hp.lay.hS
  have hx := (hp.lay.hx r hr).1
  have hsrc : F.kAt ((F.pl (F.bay r) / F.W : Nat) : Int) ((F.pl (F.bay r) % F.W : Nat) : Int) = 7 := by rw [b6, b7, kAt_nat F b1 b2]; exact b3
  have can_no : ∀ (j : Nat) (x y : Int), F.to (F.bay r) j = (x, y) → (drv (F.kAt x y) = false ∨ F.kAt x y = 7) → F.can (F.bay r) j = false := fun j x y ht hk => by
    unfold FP.can FP.pas
    rw [hsrc, ht]
    rcases hk with hk | hk
    · simp only [hk]; simp
    · simp only [hk]; simp
  have can_yes : ∀ (j : Nat) (x y : Int), F.to (F.bay r) j = (x, y) → (F.kAt x y = 5 ∨ F.kAt x y = 6) → F.can (F.bay r) j = true := fun j x y ht hk => by
    unfold FP.can FP.pas
    rw [hsrc, ht]
    rcases hk with hk | hk
    · simp only [hk]; rfl
    · simp only [hk]; rfl
  have out : ∀ x y : Int, ¬ (0 ≤ x ∧ x < (F.S : Int) + 4 ∧ 0 ≤ y ∧ y < (F.W : Int)) → drv (F.kAt x y) = false := fun x y h => by rw [FP.kAt, if_neg h]; rfl
  have side : ∀ y : Int, drv (F.kAt (F.px r : Int) y) = false ∨ F.kAt (F.px r : Int) y = 7 := fun y => by
    by_cases hy : 0 ≤ y ∧ y < (F.W : Int)
    · obtain ⟨yn, rfl⟩ : ∃ n : Nat, y = n := ⟨y.toNat, by omega⟩
      rw [kAt_nat F b1 (by omega)]
      cases hd : drv (F.kd (F.px r * F.W + yn))
      · exact Or.inl rfl
      · exact Or.inr (k_apron hp hx (by omega) hd)
    · exact Or.inl (out _ _ (by omega))
  have t : ∀ j : Nat, F.to (F.bay r) j = sh (F.px r : Int) (F.py r : Int) ((j : Int) + 1) := fun j => by unfold FP.to; rw [b6, b7]
  have n1 : F.can (F.bay r) 1 = false := can_no 1 (F.px r) ((F.py r : Int) - 1) (by rw [t]; simp [sh]) (side _)
  have n2 : F.can (F.bay r) 2 = false := can_no 2 (F.px r) ((F.py r : Int) + 1) (by rw [t]; simp [sh]) (side _)
  rcases hx with hx | hx
  · have n0 : F.can (F.bay r) 0 = false := can_no 0 ((F.px r : Int) - 1) (F.py r) (by rw [t]; simp [sh]) (Or.inl (out _ _ (by omega)))
    have hk : F.kAt ((F.px r : Int) + 1) (F.py r) = 5 := by
      have := kAt_nat F (r := 1) (q := F.py r) (by omega) b2
      rw [k_front hp b2] at this
      rw [hx]; exact this
    have n3 : F.can (F.bay r) 3 = true := can_yes 3 ((F.px r : Int) + 1) (F.py r) (by rw [t]; simp [sh]) (Or.inl hk)
    have hto : F.to (F.bay r) 3 = ((F.px r : Int) + 1, (F.py r : Int)) := by rw [t]; simp [sh]
    have hs := id_spec hp.pl (r := 1) (q := F.py r) (by omega) b2 (by rw [k_front hp b2]; rfl)
    refine ⟨F.id (1 * F.W + F.py r), ?_, hs.1, Or.inl (by rw [hs.2.1]; exact k_front hp b2)⟩
    simp only [FP.adj, FP.adjTo, n0, n1, n2, n3, hto]
    simp [hx]
  · have n3 : F.can (F.bay r) 3 = false := can_no 3 ((F.px r : Int) + 1) (F.py r) (by rw [t]; simp [sh]) (Or.inl (out _ _ (by omega)))
    have hk : F.kAt ((F.px r : Int) - 1) (F.py r) = 6 := by
      have := kAt_nat F (r := F.S + 2) (q := F.py r) (by omega) b2
      rw [k_back hp b2] at this
      rw [hx, show (((F.S + 3 : Nat) : Int) - 1) = ((F.S + 2 : Nat) : Int) by omega]; exact this
    have n0 : F.can (F.bay r) 0 = true := can_yes 0 ((F.px r : Int) - 1) (F.py r) (by rw [t]; simp [sh]) (Or.inr hk)
    have hto : F.to (F.bay r) 0 = ((F.px r : Int) - 1, (F.py r : Int)) := by rw [t]; simp [sh]
    have hs := id_spec hp.pl (r := F.S + 2) (q := F.py r) (by omega) b2 (by rw [k_back hp b2]; rfl)
    refine ⟨F.id ((F.S + 2) * F.W + F.py r), ?_, hs.1, Or.inr (by rw [hs.2.1]; exact k_back hp b2)⟩
    simp only [FP.adj, FP.adjTo, n0, n1, n2, n3, hto]
    simp [hx]
    rw [show ((F.S : Int) + 3).toNat - 1 = F.S + 2 by omega]

def FP.bays (F : FP) (k : Nat) : List Nat := (List.range k).map F.bay
theorem bays_nodup (hp : Pln F) {k : Nat} (hk : k ≤ F.n) : (F.bays k).Nodup := by
  induction k with
  | zero => simp [FP.bays]
  | succ k ih =>
    have e : F.bays (k + 1) = F.bays k ++ [F.bay k] := by simp [FP.bays, List.range_succ]
    rw [e, List.nodup_append]
    refine ⟨ih (by omega), by simp, fun x hx y hy exy => ?_⟩
    simp [FP.bays] at hx hy
    obtain ⟨a, ha, rfl⟩ := hx
    subst hy
    have := bay_inj hp (by omega) (by omega) exy
    omega
/-- All cells but the bays. -/
theorem rest_len (hp : Pln F) {acc : List Nat} (hnd : acc.Nodup) (hlt : ∀ x, x ∈ acc → x < F.N) (h7 : ∀ x, x ∈ acc → F.kd (F.pl x) ≠ 7) (hall : ∀ c, c < F.N → F.kd (F.pl c) ≠ 7 → c ∈ acc) : acc.length + F.n = F.N := by
  have hb : ∀ x, x ∈ F.bays F.n → x < F.N ∧ F.kd (F.pl x) = 7 := fun x hx => by
    simp [FP.bays] at hx
    obtain ⟨r, hr, rfl⟩ := hx
    have := bay_spec hp hr
    exact ⟨this.2.2.1, by rw [this.2.2.2.1]; exact this.2.1⟩
  have := range_len F.N (acc ++ F.bays F.n) (by
    rw [List.nodup_append]
    exact ⟨hnd, bays_nodup hp (Nat.le_refl _), fun x hx y hy e => by subst e; exact h7 x hx (hb x hy).2⟩) (fun x hx => by
    rcases List.mem_append.1 hx with h1 | h1
    · exact hlt x h1
    · exact (hb x h1).1) (fun c hc => by
    by_cases h : F.kd (F.pl c) = 7
    · obtain ⟨r, hr, rfl⟩ := bay_of hp hc h
      exact List.mem_append_right _ (by simp [FP.bays]; exact ⟨r, hr, rfl⟩)
    · exact List.mem_append_left _ (hall c hc h))
  simpa [FP.bays] using this
end
end Go.Proofs.Qxb6500715aFmt
