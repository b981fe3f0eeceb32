/-
  The neighbour lists, plain: symmetric, irreflexive.
-/
import Derived.Test.Qxb6500715aFmtLnk
namespace Go.Proofs.Qxb6500715aFmt
open Go.RowKit
set_option linter.unusedSimpArgs false
set_option linter.unusedVariables false

structure Plain (F : FP) : Prop where
  hN : F.N = cnt (fun t => drv (F.kd t)) F.L
  hL : F.L = F.W * (F.S + 4)
  hW : 0 < F.W

theorem FlN.plain {w : World} {F : FP} (h : FlN w F) : Plain F := ⟨h.num.hN, h.hL, by have := h.hWb; omega⟩

theorem pas_comm (F : FP) (r q r' q' : Int) : F.pas r q r' q' = F.pas r' q' r q := by
  unfold FP.pas
  cases drv (F.kAt r q) <;> cases drv (F.kAt r' q') <;> cases F.kAt r q == 7 <;> cases F.kAt r' q' == 7 <;> rfl

section
variable {F : FP} (hp : Plain F)

theorem mem_adjTo (F : FP) (c k b : Nat) : b ∈ F.adjTo c k ↔ ∃ j, j < k ∧ F.can c j = true ∧ b = F.id ((F.to c j).1.toNat * F.W + (F.to c j).2.toNat) := by
  induction k with
  | zero => simp [FP.adjTo]
  | succ k ih =>
    simp only [FP.adjTo, List.mem_append, ih]
    constructor
    · rintro (⟨j, h1, h2, h3⟩ | h)
      · exact ⟨j, by omega, h2, h3⟩
      · split at h
        · rename_i hc
          exact ⟨k, by omega, hc, by simpa using h⟩
        · simp at h
    · rintro ⟨j, h1, h2, h3⟩
      by_cases hj : j = k
      · subst hj
        right; rw [if_pos h2, h3]; simp
      · exact Or.inl ⟨j, by omega, h2, h3⟩

/-- The place of a cell. -/
theorem pl_spec (hp : Plain F) {c : Nat} (hc : c < F.N) : F.pl c < F.L ∧ drv (F.kd (F.pl c)) = true ∧ F.id (F.pl c) = c ∧ F.pl c / F.W < F.S + 4 ∧ F.pl c % F.W < F.W ∧ F.pl c / F.W * F.W + F.pl c % F.W = F.pl c := by
  have h := plc_spec (fun t => drv (F.kd t)) (L := F.L) (c := c) (by rw [← hp.hN]; exact hc)
  refine ⟨h.1, h.2.1, h.2.2, ?_, Nat.mod_lt _ hp.hW, ?_⟩
  · apply Nat.div_lt_of_lt_mul; rw [← hp.hL]; exact h.1
  · rw [Nat.mul_comm]; exact Nat.div_add_mod _ _

theorem kAt_nat (F : FP) {r q : Nat} (hr : r < F.S + 4) (hq : q < F.W) : F.kAt r q = F.kd (r * F.W + q) := by
  rw [FP.kAt, if_pos ⟨by omega, by omega, by omega, by omega⟩]
  simp

/-- A place on the grid as a cell. -/
theorem id_spec (hp : Plain F) {r q : Nat} (hr : r < F.S + 4) (hq : q < F.W) (hd : drv (F.kd (r * F.W + q)) = true) :
    F.id (r * F.W + q) < F.N ∧ F.pl (F.id (r * F.W + q)) = r * F.W + q ∧ F.pl (F.id (r * F.W + q)) / F.W = r ∧ F.pl (F.id (r * F.W + q)) % F.W = q := by
  have hlt : r * F.W + q < F.L := by
    have h1 : (r + 1) * F.W ≤ (F.S + 4) * F.W := Nat.mul_le_mul_right _ (by omega)
    rw [Nat.add_mul, Nat.one_mul, Nat.mul_comm (F.S + 4), ← hp.hL] at h1
    omega
  have e : F.pl (F.id (r * F.W + q)) = r * F.W + q := plc_cnt (fun t => drv (F.kd t)) hlt hd
  refine ⟨by rw [hp.hN]; exact cnt_lt (fun t => drv (F.kd t)) hlt hd, e, ?_, ?_⟩
  · rw [e, Nat.mul_comm, Nat.mul_add_div hp.hW, Nat.div_eq_of_lt hq]; rfl
  · rw [e, Nat.mul_comm, Nat.mul_add_mod, Nat.mod_eq_of_lt hq]

/-- What it is to be a neighbour. -/
theorem adj_iff (hp : Plain F) {c b : Nat} (hc : c < F.N) : b ∈ F.adj c ↔ ∃ (j r q : Nat), j < 4 ∧ F.to c j = ((r : Int), (q : Int)) ∧ r < F.S + 4 ∧ q < F.W ∧ drv (F.kd (r * F.W + q)) = true ∧ ¬ (F.kd (F.pl c) = 7 ∧ F.kd (r * F.W + q) = 7) ∧ b = F.id (r * F.W + q) := by
  obtain ⟨h1, h2, h3, h4, h5, h6⟩ := pl_spec hp hc
  have hk : F.kAt ((F.pl c / F.W : Nat) : Int) ((F.pl c % F.W : Nat) : Int) = F.kd (F.pl c) := by rw [kAt_nat F h4 h5, h6]
  rw [FP.adj, mem_adjTo]
  constructor
  · rintro ⟨j, hj, hcan, hb⟩
    unfold FP.can at hcan
    obtain ⟨⟨a, b2, c2, d⟩, hd⟩ := pas_in F hcan
    refine ⟨j, (F.to c j).1.toNat, (F.to c j).2.toNat, hj, ?_, by omega, by omega, hd, ?_, hb⟩
    · rw [Int.toNat_of_nonneg a, Int.toNat_of_nonneg c2]
    · rintro ⟨x, y⟩
      unfold FP.pas at hcan
      have hk2 : F.kAt (F.to c j).1 (F.to c j).2 = F.kd ((F.to c j).1.toNat * F.W + (F.to c j).2.toNat) := by rw [FP.kAt, if_pos ⟨a, b2, c2, d⟩]
      rw [hk, hk2, x, y] at hcan
      simp at hcan
  · rintro ⟨j, r, q, hj, hto, hr, hq, hd, h7, hb⟩
    refine ⟨j, hj, ?_, by rw [hto]; simpa using hb⟩
    unfold FP.can
    rw [hto]
    unfold FP.pas
    rw [hk, kAt_nat F hr hq, h2, hd]
    simp only [Bool.and_self, Bool.true_and, Bool.not_eq_true', Bool.and_eq_false_iff, beq_eq_false_iff_ne]
    by_cases h : F.kd (F.pl c) = 7
    · exact Or.inr fun h' => h7 ⟨h, h'⟩
    · exact Or.inl h

theorem adj_lt (hp : Plain F) {c b : Nat} (hc : c < F.N) (h : b ∈ F.adj c) : b < F.N := by
  obtain ⟨j, r, q, hj, hto, hr, hq, hd, h7, rfl⟩ := (adj_iff hp hc).1 h
  exact (id_spec hp hr hq hd).1

theorem adj_symm (hp : Plain F) {c b : Nat} (hc : c < F.N) (h : b ∈ F.adj c) : c ∈ F.adj b := by
  obtain ⟨j, r, q, hj, hto, hr, hq, hd, h7, rfl⟩ := (adj_iff hp hc).1 h
  obtain ⟨hb, hpl, hdiv, hmod⟩ := id_spec hp hr hq hd
  obtain ⟨h1, h2, h3, h4, h5, h6⟩ := pl_spec hp hc
  refine (adj_iff hp hb).2 ⟨3 - j, F.pl c / F.W, F.pl c % F.W, by omega, ?_, h4, h5, by rw [h6]; exact h2, by rw [hpl, h6]; exact fun h => h7 ⟨h.2, h.1⟩, by rw [h6]; exact h3.symm⟩
  unfold FP.to at hto ⊢
  rw [hdiv, hmod]
  generalize F.pl c / F.W = x at *
  generalize F.pl c % F.W = y at *
  rcases (by omega : j = 0 ∨ j = 1 ∨ j = 2 ∨ j = 3) with rfl | rfl | rfl | rfl <;> simp [sh] at hto ⊢ <;> omega

theorem adj_ne (hp : Plain F) {c : Nat} (hc : c < F.N) : c ∉ F.adj c := by
  intro h
  obtain ⟨j, r, q, hj, hto, hr, hq, hd, h7, hb⟩ := (adj_iff hp hc).1 h
  obtain ⟨_, hpl, hdiv, hmod⟩ := id_spec hp hr hq hd
  rw [← hb] at hdiv hmod
  unfold FP.to at hto
  rw [hdiv, hmod] at hto
  rcases (by omega : j = 0 ∨ j = 1 ∨ j = 2 ∨ j = 3) with rfl | rfl | rfl | rfl <;> simp [sh] at hto <;> omega
end
end Go.Proofs.Qxb6500715aFmt
