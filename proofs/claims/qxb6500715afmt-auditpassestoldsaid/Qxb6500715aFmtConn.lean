/-
  The floor's cells hang together, plain.
-/
import Derived.Test.Qxb6500715aFmtSym
namespace Go.Proofs.Qxb6500715aFmt
open Go.RowKit
set_option linter.unusedSimpArgs false
set_option linter.unusedVariables false

/-- What the plain proofs ask of a floor. -/
structure Pln (F : FP) : Prop where
  pl : Plain F
  lay : LayN F.A F.S F.P F.D F.c F.n F.px F.py
  hW : F.W = (F.A - 1) * F.P + 3
  kind : ∀ r q, r < F.S + 4 → q < F.W → F.kd (r * F.W + q) = kind3 F.A F.S F.P F.D F.n F.px F.py r q
theorem FlN.pln {w : World} {F : FP} (h : FlN w F) : Pln F := ⟨h.plain, h.lay, h.hdr.hW, h.kind⟩

section
variable {F : FP} (hp : Pln F)

theorem nobay (hp : Pln F) {r q : Nat} (hr : 1 ≤ r ∧ r < F.S + 3) : isBay F.n F.px F.py r q = false := by
  cases h : isBay F.n F.px F.py r q
  · rfl
  · obtain ⟨i, hi, h1, h2⟩ := (isBay_iff _ _ _ r q).1 h
    have := (hp.lay.hx i hi).1
    omega
theorem k_front (hp : Pln F) {q : Nat} (hq : q < F.W) : F.kd (1 * F.W + q) = 5 := by
  have hS := hp.lay.hS
  rw [hp.kind 1 q (by omega) hq, kind3, nobay hp ⟨by omega, by omega⟩, if_neg (by simp), kind2, if_neg (by omega), kind1, if_pos rfl]
theorem k_back (hp : Pln F) {q : Nat} (hq : q < F.W) : F.kd ((F.S + 2) * F.W + q) = 6 := by
  have hS := hp.lay.hS
  rw [hp.kind _ q (by omega) hq, kind3, nobay hp ⟨by omega, by omega⟩, if_neg (by simp), kind2, if_neg (by omega), kind1, if_neg (by omega), if_pos rfl]
/-- A column of an aisle. -/
def FP.isA (F : FP) (q : Nat) : Prop := 1 ≤ q ∧ (q - 1) % F.P = 0 ∧ (q - 1) / F.P < F.A
theorem k_mid (hp : Pln F) {r q : Nat} (hr : 2 ≤ r ∧ r < F.S + 2) (hq : q < F.W) : (F.isA q → F.kd (r * F.W + q) = 4) ∧ (¬ F.isA q → drv (F.kd (r * F.W + q)) = false) := by
  rw [hp.kind r q (by omega) hq, kind3, nobay hp ⟨by omega, by omega⟩, if_neg (by simp), kind2, if_pos hr]
  have e : (1 ≤ q ∧ (q - 1) % F.P = 0 ∧ ((q - 1) / F.P < F.A ∨ (q - 1) / F.P = F.A ∧ r < 2)) ↔ F.isA q := by
    unfold FP.isA; constructor
    · rintro ⟨h1, h2, h3⟩; exact ⟨h1, h2, by omega⟩
    · rintro ⟨h1, h2, h3⟩; exact ⟨h1, h2, Or.inl h3⟩
  constructor
  · intro h; rw [if_pos (e.2 h)]
  · intro h; rw [if_neg (fun h' => h (e.1 h'))]; split <;> rfl
theorem k_apron (hp : Pln F) {r q : Nat} (hr : r = 0 ∨ r = F.S + 3) (hq : q < F.W) (hd : drv (F.kd (r * F.W + q)) = true) : F.kd (r * F.W + q) = 7 := by
  have hS := hp.lay.hS
  rw [hp.kind r q (by omega) hq, kind3] at hd ⊢
  split
  · rfl
  · rename_i h
    rw [if_neg h, kind2, if_neg (by omega), kind1, if_neg (by omega), if_neg (by omega), if_neg (by omega)] at hd
    simp [drv] at hd
theorem isA_one (hp : Pln F) : F.isA 1 := by
  have hA := hp.lay.hA
  refine ⟨Nat.le_refl _, by simp, by simp; omega⟩

/-- A set of cells that holds every neighbour of its members. -/
def Closed (F : FP) (T : Nat → Prop) : Prop := ∀ c b, c < F.N → T c → b ∈ F.adj c → T b

theorem step (hp : Pln F) {T : Nat → Prop} (hT : Closed F T) {r q r' q' j : Nat} (hj : j < 4) (hr : r < F.S + 4) (hq : q < F.W) (hr' : r' < F.S + 4) (hq' : q' < F.W) (hd : drv (F.kd (r * F.W + q)) = true) (hd' : drv (F.kd (r' * F.W + q')) = true)
    (h7 : ¬ (F.kd (r * F.W + q) = 7 ∧ F.kd (r' * F.W + q') = 7)) (hs : sh (r : Int) (q : Int) ((j : Int) + 1) = ((r' : Int), (q' : Int))) (h : T (F.id (r * F.W + q))) : T (F.id (r' * F.W + q')) := by
  obtain ⟨h1, h2, h3, h4⟩ := id_spec hp.pl hr hq hd
  refine hT _ _ h1 h ((adj_iff hp.pl h1).2 ⟨j, r', q', hj, ?_, hr', hq', hd', by rw [h2]; exact h7, rfl⟩)
  unfold FP.to
  rw [h3, h4]; exact hs

theorem vert (hp : Pln F) {T : Nat → Prop} (hT : Closed F T) {r q : Nat} (hr : r + 1 < F.S + 4) (hq : q < F.W) (hd : drv (F.kd (r * F.W + q)) = true) (hd' : drv (F.kd ((r + 1) * F.W + q)) = true)
    (h7 : ¬ (F.kd (r * F.W + q) = 7 ∧ F.kd ((r + 1) * F.W + q) = 7)) : T (F.id (r * F.W + q)) ↔ T (F.id ((r + 1) * F.W + q)) :=
  ⟨step hp hT (j := 3) (by omega) (by omega) hq hr hq hd hd' h7 (by simp [sh]), step hp hT (j := 0) (by omega) hr hq (by omega) hq hd' hd (fun h => h7 ⟨h.2, h.1⟩) (by simp [sh])⟩
theorem horiz (hp : Pln F) {T : Nat → Prop} (hT : Closed F T) {r q : Nat} (hr : r < F.S + 4) (hq : q + 1 < F.W) (hd : drv (F.kd (r * F.W + q)) = true) (hd' : drv (F.kd (r * F.W + (q + 1))) = true)
    (h7 : ¬ (F.kd (r * F.W + q) = 7 ∧ F.kd (r * F.W + (q + 1)) = 7)) : T (F.id (r * F.W + q)) ↔ T (F.id (r * F.W + (q + 1))) :=
  ⟨step hp hT (j := 2) (by omega) hr (by omega) hr hq hd hd' h7 (by simp [sh]), step hp hT (j := 1) (by omega) hr hq hr (by omega) hd' hd (fun h => h7 ⟨h.2, h.1⟩) (by simp [sh])⟩

theorem row_all (hp : Pln F) {T : Nat → Prop} (hT : Closed F T) {r : Nat} (hr : r < F.S + 4) (hk : ∀ q, q < F.W → drv (F.kd (r * F.W + q)) = true ∧ F.kd (r * F.W + q) ≠ 7) : ∀ q, q < F.W → (T (F.id (r * F.W + q)) ↔ T (F.id (r * F.W + 0))) := by
  intro q
  induction q with
  | zero => intro _; exact Iff.rfl
  | succ q ih =>
    intro hq
    exact (horiz hp hT hr hq (hk q (by omega)).1 (hk _ hq).1 (fun h => (hk _ hq).2 h.2)).symm.trans (ih (by omega))

theorem col_all (hp : Pln F) {T : Nat → Prop} (hT : Closed F T) {q : Nat} (hq : q < F.W) (hA : F.isA q) : ∀ r, 1 ≤ r → r ≤ F.S + 2 → (T (F.id (r * F.W + q)) ↔ T (F.id (1 * F.W + q))) := by
  have hk : ∀ r, 1 ≤ r → r ≤ F.S + 2 → drv (F.kd (r * F.W + q)) = true ∧ F.kd (r * F.W + q) ≠ 7 := fun r h1 h2 => by
    rcases (by omega : r = 1 ∨ r = F.S + 2 ∨ (2 ≤ r ∧ r < F.S + 2)) with rfl | rfl | h
    · rw [k_front hp hq]; simp [drv]
    · rw [k_back hp hq]; simp [drv]
    · rw [(k_mid hp h hq).1 hA]; simp [drv]
  intro r
  induction r with
  | zero => intro h; omega
  | succ r ih =>
    intro h1 h2
    by_cases hr : r = 0
    · subst hr; exact Iff.rfl
    · exact (vert hp hT (by omega) hq (hk r (by omega) (by omega)).1 (hk _ h1 h2).1 (fun h => (hk _ h1 h2).2 h.2)).symm.trans (ih (by omega) (by omega))

/-- All hang on the front's left end. -/
theorem all_one (hp : Pln F) {T : Nat → Prop} (hT : Closed F T) {r q : Nat} (hr : r < F.S + 4) (hq : q < F.W) (hd : drv (F.kd (r * F.W + q)) = true) : T (F.id (r * F.W + q)) ↔ T (F.id (1 * F.W + 0)) := by
  have hW := hp.pl.hW
  have hS := hp.lay.hS
  have hW3 : 3 ≤ F.W := by rw [hp.hW]; omega
  have hf := row_all hp hT (r := 1) (by omega) (fun q hq => by rw [k_front hp hq]; simp [drv])
  have hb := row_all hp hT (r := F.S + 2) (by omega) (fun q hq => by rw [k_back hp hq]; simp [drv])
  have hba : ∀ q, q < F.W → (T (F.id ((F.S + 2) * F.W + q)) ↔ T (F.id (1 * F.W + 0))) := fun q hq =>
    ((hb q hq).trans (hb 1 (by omega)).symm).trans ((col_all hp hT (by omega) (isA_one hp) (F.S + 2) (by omega) (by omega)).trans (hf 1 (by omega)))
  rcases (by omega : r = 0 ∨ r = 1 ∨ (2 ≤ r ∧ r < F.S + 2) ∨ r = F.S + 2 ∨ r = F.S + 3) with rfl | rfl | h | rfl | rfl
  · have h7 := k_apron hp (Or.inl rfl) hq hd
    exact (vert hp hT (by omega) hq hd (by rw [Nat.zero_add, k_front hp hq]; rfl) (fun h => by rw [Nat.zero_add, k_front hp hq] at h; simp at h)).trans (hf q hq)
  · exact hf q hq
  · by_cases hA : F.isA q
    · exact (col_all hp hT hq hA r (by omega) (by omega)).trans (hf q hq)
    · rw [(k_mid hp h hq).2 hA] at hd; cases hd
  · exact hba q hq
  · have h7 := k_apron hp (Or.inr rfl) hq hd
    exact (vert hp hT (by omega) hq (by rw [k_back hp hq]; rfl) hd (fun h => by rw [k_back hp hq] at h; simp at h)).symm.trans (hba q hq)

theorem conn (hp : Pln F) {T : Nat → Prop} (hT : Closed F T) {s : Nat} (hs : s < F.N) (h : T s) : ∀ c, c < F.N → T c := by
  have key : ∀ c, c < F.N → (T c ↔ T (F.id (1 * F.W + 0))) := fun c hc => by
    obtain ⟨h1, h2, h3, h4, h5, h6⟩ := pl_spec hp.pl hc
    have := all_one hp hT h4 h5 (by rw [h6]; exact h2)
    rwa [h6, h3] at this
  exact fun c hc => (key c hc).2 ((key s hs).1 h)
end

theorem range_len : ∀ (N : Nat) (acc : List Nat), acc.Nodup → (∀ x ∈ acc, x < N) → (∀ c, c < N → c ∈ acc) → acc.length = N := by
  intro N
  induction N with
  | zero =>
    intro acc _ h _
    cases acc with
    | nil => rfl
    | cons x l => exact absurd (h x (by simp)) (by omega)
  | succ N ih =>
    intro acc hd h ha
    have hm := ha N (by omega)
    have h1 := ih (acc.erase N) (hd.erase N) (fun x hx => by
      have h2 := (hd.mem_erase_iff).1 hx
      have := h x h2.2
      omega) (fun c hc => (hd.mem_erase_iff).2 ⟨by omega, ha c (by omega)⟩)
    have := List.length_erase_of_mem hm
    have : 0 < acc.length := List.length_pos_of_mem hm
    omega
end Go.Proofs.Qxb6500715aFmt
