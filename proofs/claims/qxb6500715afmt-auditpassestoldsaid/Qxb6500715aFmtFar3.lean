/-
  The closed form on cells is the length of the search.
-/
import Derived.Test.Qxb6500715aFmtFar2
import Derived.Test.Qxb6500715aFmtTabs
namespace Go.Proofs.Qxb6500715aFmt
open Go.RowKit
set_option linter.unusedSimpArgs false
set_option linter.unusedVariables false

def FP.row (F : FP) (c : Nat) : Nat := F.pl c / F.W
def FP.col (F : FP) (c : Nat) : Nat := F.pl c % F.W
/-- A bay. -/
abbrev FP.isB (F : FP) (c : Nat) : Prop := F.kd (F.pl c) = 7
/-- A cell's row on the aisles, and the moves that lead there. -/
def FP.ar (F : FP) (c : Nat) : Nat := if F.isB c then (if F.row c = 0 then 1 else F.S + 2) else F.row c
def FP.ex (F : FP) (c : Nat) : Nat := if F.isB c then 1 else 0
/-- The distance. -/
def FP.dst (F : FP) (a b : Nat) : Nat := if a = b then 0 else F.ex a + F.ex b + ad F.A F.P F.S (F.ar a) (F.col a) (F.ar b) (F.col b)

section
variable {F : FP}
theorem isA_iff (F : FP) (hP : 2 ≤ F.P) (q : Nat) : F.isA q ↔ isAc F.A F.P q := by
  unfold FP.isA isAc
  constructor
  · rintro ⟨h1, h2, h3⟩
    refine ⟨(q - 1) / F.P, h3, ?_⟩
    have := Nat.div_add_mod (q - 1) F.P
    rw [h2, Nat.mul_comm] at this
    omega
  · rintro ⟨al, h, rfl⟩
    have e : 1 + al * F.P - 1 = al * F.P := by omega
    refine ⟨by omega, ?_, ?_⟩
    · rw [e]; exact Nat.mul_mod_left _ _
    · rw [e, Nat.mul_div_cancel _ (by omega)]; exact h

theorem Pln.P2 (hp : Pln F) : 2 ≤ F.P := by have := hp.lay.hP; omega

/-- A drivable place. -/
theorem place_on (hp : Pln F) {r q : Nat} (hr : r < F.S + 4) (hq : q < F.W) (hd : drv (F.kd (r * F.W + q)) = true) :
    (F.kd (r * F.W + q) = 7 ∧ (r = 0 ∨ r = F.S + 3)) ∨ (F.kd (r * F.W + q) ≠ 7 ∧ onA F.A F.P F.S r q) := by
  have hS := hp.lay.hS
  have hq' : q < (F.A - 1) * F.P + 3 := by rw [← hp.hW]; exact hq
  rcases (by omega : r = 0 ∨ r = F.S + 3 ∨ r = 1 ∨ r = F.S + 2 ∨ (2 ≤ r ∧ r < F.S + 2)) with h | h | h | h | h
  · exact Or.inl ⟨k_apron hp (Or.inl h) hq hd, Or.inl h⟩
  · exact Or.inl ⟨k_apron hp (Or.inr h) hq hd, Or.inr h⟩
  · refine Or.inr ⟨?_, hq', Or.inl h⟩
    rw [h, k_front hp hq]; decide
  · refine Or.inr ⟨?_, hq', Or.inr (Or.inl h)⟩
    rw [h, k_back hp hq]; decide
  · by_cases hA : F.isA q
    · refine Or.inr ⟨?_, hq', Or.inr (Or.inr ⟨h.1, by omega, (isA_iff F hp.P2 q).1 hA⟩)⟩
      rw [(k_mid hp h hq).1 hA]; decide
    · rw [(k_mid hp h hq).2 hA] at hd; cases hd
theorem on_place (hp : Pln F) {r q : Nat} (h : onA F.A F.P F.S r q) : r < F.S + 4 ∧ q < F.W ∧ drv (F.kd (r * F.W + q)) = true ∧ F.kd (r * F.W + q) ≠ 7 := by
  obtain ⟨h1, h2⟩ := h
  have hq : q < F.W := by rw [hp.hW]; exact h1
  rcases h2 with rfl | rfl | ⟨h2, h3, h4⟩
  · refine ⟨by omega, hq, ?_⟩; rw [k_front hp hq]; simp [drv]
  · refine ⟨by omega, hq, ?_⟩; rw [k_back hp hq]; simp [drv]
  · refine ⟨by omega, hq, ?_⟩; rw [(k_mid hp ⟨h2, by omega⟩ hq).1 ((isA_iff F hp.P2 q).2 h4)]; simp [drv]

theorem cell_on (hp : Pln F) {c : Nat} (hc : c < F.N) : F.row c < F.S + 4 ∧ F.col c < F.W ∧ F.id (F.row c * F.W + F.col c) = c ∧ F.row c * F.W + F.col c = F.pl c ∧ ((F.isB c ∧ (F.row c = 0 ∨ F.row c = F.S + 3)) ∨ (¬ F.isB c ∧ onA F.A F.P F.S (F.row c) (F.col c))) := by
  obtain ⟨h1, h2, h3, h4, h5, h6⟩ := pl_spec hp.pl hc
  have h := place_on hp h4 h5 (by rw [h6]; exact h2)
  rw [h6] at h
  refine ⟨h4, h5, ?_, h6, h⟩
  rw [FP.row, FP.col, h6]; exact h3
theorem cell_ext (hp : Pln F) {a b : Nat} (ha : a < F.N) (hb : b < F.N) (h1 : F.row a = F.row b) (h2 : F.col a = F.col b) : a = b := by
  have := (cell_on hp ha).2.2.1
  rw [h1, h2, (cell_on hp hb).2.2.1] at this
  exact this.symm
/-- A place's cell. -/
theorem id_co (hp : Pln F) {r q : Nat} (h : onA F.A F.P F.S r q) : F.id (r * F.W + q) < F.N ∧ F.row (F.id (r * F.W + q)) = r ∧ F.col (F.id (r * F.W + q)) = q ∧ ¬ F.isB (F.id (r * F.W + q)) := by
  obtain ⟨h1, h2, h3, h4⟩ := on_place hp h
  obtain ⟨g1, g2, g3, g4⟩ := id_spec hp.pl h1 h2 h3
  exact ⟨g1, g3, g4, by unfold FP.isB; rw [g2]; exact h4⟩
theorem anchor_on (hp : Pln F) {c : Nat} (hc : c < F.N) : onA F.A F.P F.S (F.ar c) (F.col c) := by
  obtain ⟨h1, h2, h3, h4, h5⟩ := cell_on hp hc
  unfold FP.ar
  rcases h5 with ⟨hb, hr⟩ | ⟨hb, ho⟩
  · rw [if_pos hb]
    refine ⟨by rw [← hp.hW]; exact h2, ?_⟩
    split
    · exact Or.inl rfl
    · exact Or.inr (Or.inl rfl)
  · rw [if_neg hb]; exact ho

/-- Adjacent cells lie one move apart. -/
theorem adj_co (hp : Pln F) {c b : Nat} (hc : c < F.N) (h : b ∈ F.adj c) : b < F.N ∧ one (F.row c) (F.col c) (F.row b) (F.col b) ∧ ¬ (F.isB c ∧ F.isB b) := by
  obtain ⟨j, r, q, hj, hto, hr, hq, hd, h7, rfl⟩ := (adj_iff hp.pl hc).1 h
  obtain ⟨g1, g2, g3, g4⟩ := id_spec hp.pl hr hq hd
  refine ⟨g1, ?_, by unfold FP.isB; rw [g2]; exact h7⟩
  unfold FP.row FP.col
  rw [g3, g4]
  unfold FP.to at hto
  generalize F.pl c / F.W = x at *
  generalize F.pl c % F.W = y at *
  unfold one
  rcases (by omega : j = 0 ∨ j = 1 ∨ j = 2 ∨ j = 3) with rfl | rfl | rfl | rfl <;> simp [sh] at hto <;> omega
theorem adj_of (hp : Pln F) {c r q : Nat} (hc : c < F.N) (hr : r < F.S + 4) (hq : q < F.W) (hd : drv (F.kd (r * F.W + q)) = true) (h7 : ¬ (F.isB c ∧ F.kd (r * F.W + q) = 7)) (h : one (F.row c) (F.col c) r q) : F.id (r * F.W + q) ∈ F.adj c := by
  unfold FP.row FP.col one at h
  have key : ∃ j, j < 4 ∧ F.to c j = ((r : Int), (q : Int)) := by
    unfold FP.to
    generalize F.pl c / F.W = x at *
    generalize F.pl c % F.W = y at *
    rcases h with ⟨rfl, h | h⟩ | ⟨rfl, h | h⟩
    · exact ⟨2, by omega, by simp [sh]; omega⟩
    · exact ⟨1, by omega, by simp [sh]; omega⟩
    · exact ⟨3, by omega, by simp [sh]; omega⟩
    · exact ⟨0, by omega, by simp [sh]; omega⟩
  obtain ⟨j, hj, hto⟩ := key
  exact (adj_iff hp.pl hc).2 ⟨j, r, q, hj, hto, hr, hq, hd, h7, rfl⟩

theorem one_symm {r q r' q' : Nat} (h : one r q r' q') : one r' q' r q := by unfold one at *; omega

/-- A bay's neighbour is its gate. -/
theorem bay_gate (hp : Pln F) {c b : Nat} (hc : c < F.N) (h : b ∈ F.adj c) (hB : F.isB c) : ¬ F.isB b ∧ F.row b = F.ar c ∧ F.col b = F.col c := by
  obtain ⟨hb, ho, h7⟩ := adj_co hp hc h
  have hnb : ¬ F.isB b := fun h => h7 ⟨hB, h⟩
  obtain ⟨b1, b2, b3, b4, b5⟩ := cell_on hp hb
  obtain ⟨c1, c2, c3, c4, c5⟩ := cell_on hp hc
  have hS := hp.lay.hS
  have hbo : onA F.A F.P F.S (F.row b) (F.col b) := by
    rcases b5 with h | h
    · exact absurd h.1 hnb
    · exact h.2
  have hcr : F.row c = 0 ∨ F.row c = F.S + 3 := by
    rcases c5 with h | h
    · exact h.2
    · exact absurd hB h.1
  have hbr := hbo.2
  refine ⟨hnb, ?_, ?_⟩
  · unfold FP.ar; rw [if_pos hB]; unfold one at ho
    split <;> omega
  · unfold one at ho; omega
theorem gate_adj (hp : Pln F) {c : Nat} (hc : c < F.N) (hB : F.isB c) : F.id (F.ar c * F.W + F.col c) ∈ F.adj c := by
  have ho := anchor_on hp hc
  obtain ⟨h1, h2, h3, h4⟩ := on_place hp ho
  obtain ⟨c1, c2, c3, c4, c5⟩ := cell_on hp hc
  have hcr : F.row c = 0 ∨ F.row c = F.S + 3 := by
    rcases c5 with h | h
    · exact h.2
    · exact absurd hB h.1
  refine adj_of hp hc h1 h2 h3 (fun h => h4 h.2) ?_
  unfold FP.ar one; rw [if_pos hB]
  right; refine ⟨rfl, ?_⟩
  split <;> omega

theorem dst_comm (F : FP) (a b : Nat) : F.dst a b = F.dst b a := by
  unfold FP.dst
  by_cases h : a = b
  · rw [if_pos h, if_pos h.symm]
  · rw [if_neg h, if_neg (fun e => h e.symm), ad_comm]; omega

/-- The formula without the test. -/
theorem dst_nb (hp : Pln F) {a b : Nat} (hb : ¬ F.isB b) (ha : a < F.N) (hbN : b < F.N) : F.dst a b = F.ex a + ad F.A F.P F.S (F.ar a) (F.col a) (F.row b) (F.col b) := by
  unfold FP.dst
  have e : F.ex b = 0 := by unfold FP.ex; rw [if_neg hb]
  have e2 : F.ar b = F.row b := by unfold FP.ar; rw [if_neg hb]
  by_cases h : a = b
  · subst h; rw [if_pos rfl, e, e2, ad_self]
  · rw [if_neg h, e, e2, Nat.add_zero]

theorem dst_lips (hp : Pln F) {a b c : Nat} (ha : a < F.N) (hb : b < F.N) (h : c ∈ F.adj b) : F.dst a c ≤ F.dst a b + 1 := by
  have hP := hp.P2
  have hA := hp.lay.hA.1
  have hS := hp.lay.hS.1
  obtain ⟨hc, ho, h7⟩ := adj_co hp hb h
  by_cases hB : F.isB b
  · obtain ⟨n1, n2, n3⟩ := bay_gate hp hb h hB
    rw [dst_nb hp n1 ha hc, n2, n3]
    unfold FP.dst
    by_cases e : a = b
    · subst e; rw [if_pos rfl, ad_self]; unfold FP.ex; rw [if_pos hB]; omega
    · rw [if_neg e]; unfold FP.ex; omega
  · by_cases hC : F.isB c
    · obtain ⟨n1, n2, n3⟩ := bay_gate hp hc (adj_symm hp.pl hb h) hC
      rw [dst_nb hp hB ha hb, n2, n3]
      unfold FP.dst
      by_cases e : a = c
      · rw [if_pos e]; omega
      · rw [if_neg e]
        have : F.ex c = 1 := by unfold FP.ex; rw [if_pos hC]
        omega
    · rw [dst_nb hp hB ha hb, dst_nb hp hC ha hc]
      have b5 := (cell_on hp hb).2.2.2.2.resolve_left (fun h => hB h.1)
      have c5 := (cell_on hp hc).2.2.2.2.resolve_left (fun h => hC h.1)
      have := ad_lips hP hA hS (anchor_on hp ha) b5.2 c5.2 ho
      omega

theorem dst_falls (hp : Pln F) {a b : Nat} (ha : a < F.N) (hb : b < F.N) (hne : a ≠ b) : ∃ c, c ∈ F.adj b ∧ F.dst a c + 1 ≤ F.dst a b := by
  have hP := hp.P2
  have hA := hp.lay.hA.1
  have hS := hp.lay.hS.1
  by_cases hB : F.isB b
  · have hg := gate_adj hp hb hB
    obtain ⟨g1, g2, g3, g4⟩ := id_co hp (anchor_on hp hb)
    refine ⟨_, hg, ?_⟩
    rw [dst_nb hp g4 ha g1, g2, g3]
    unfold FP.dst; rw [if_neg hne]
    have : F.ex b = 1 := by unfold FP.ex; rw [if_pos hB]
    omega
  · have b5 := (cell_on hp hb).2.2.2.2.resolve_left (fun h => hB h.1)
    by_cases he : F.ar a = F.row b ∧ F.col a = F.col b
    · -- b is a's gate
      have hBa : F.isB a := by
        by_cases h : F.isB a
        · exact h
        · exfalso
          have : F.ar a = F.row a := by unfold FP.ar; rw [if_neg h]
          exact hne (cell_ext hp ha hb (by omega) he.2)
      have hg := gate_adj hp ha hBa
      rw [he.1, he.2, (cell_on hp hb).2.2.1] at hg
      refine ⟨a, adj_symm hp.pl ha hg, ?_⟩
      rw [dst_nb hp hB ha hb]
      unfold FP.dst; rw [if_pos rfl]
      have : F.ex a = 1 := by unfold FP.ex; rw [if_pos hBa]
      omega
    · obtain ⟨r3, q3, o3, n3, f3⟩ := ad_falls hP hA hS (anchor_on hp ha) b5.2 he
      obtain ⟨g1, g2, g3, g4⟩ := id_co hp o3
      obtain ⟨p1, p2, p3, p4⟩ := on_place hp o3
      refine ⟨F.id (r3 * F.W + q3), adj_of hp hb p1 p2 p3 (fun h => p4 h.2) n3, ?_⟩
      rw [dst_nb hp g4 ha g1, g2, g3, dst_nb hp hB ha hb]
      omega

/-- The search's length is the closed form. -/
theorem bfs_dst (hp : Pln F) {a : Nat} {row : Nat → Int} {Q : List Nat} (hB : Bfs F a row Q Q.length 0) (ha : a < F.N) : (∀ b, b < F.N → b ∈ Q) ∧ ∀ b, b < F.N → row b = F.dst a b := by
  have haQ : a ∈ Q := List.mem_of_getElem? hB.q0
  have hall := conn hp (T := fun c => c ∈ Q) (fun c b hc hcT hb => by
    obtain ⟨i, hi, he⟩ := List.getElem_of_mem hcT
    exact (hB.done i c b hi (by rw [List.getElem?_eq_getElem hi, he]) hb).1) ha haQ
  refine ⟨hall, ?_⟩
  have lips : ∀ c b, c < F.N → b ∈ F.adj c → row b ≤ row c + 1 := fun c b hc hb => by
    obtain ⟨i, hi, he⟩ := List.getElem_of_mem (hall c hc)
    exact (hB.done i c b hi (by rw [List.getElem?_eq_getElem hi, he]) hb).2
  have up : ∀ (k b : Nat), b < F.N → F.dst a b ≤ k → row b ≤ F.dst a b := by
    intro k
    induction k with
    | zero =>
      intro b hb hk
      by_cases e : a = b
      · subst e; rw [hB.r0]; omega
      · obtain ⟨c, hc, hd⟩ := dst_falls hp ha hb e; omega
    | succ k ih =>
      intro b hb hk
      by_cases e : a = b
      · subst e; rw [hB.r0]; omega
      · obtain ⟨c, hc, hd⟩ := dst_falls hp ha hb e
        have hcN := (adj_co hp hb hc).1
        have h1 := ih c hcN (by omega)
        have h2 := lips c b hcN (adj_symm hp.pl hb hc)
        omega
  have down : ∀ (k : Nat) (b : Nat), b < F.N → row b ≤ k → (F.dst a b : Int) ≤ row b := by
    intro k
    induction k with
    | zero =>
      intro b hb hk
      by_cases e : b = a
      · subst e; rw [hB.r0]; simp [FP.dst]
      · obtain ⟨p, hp1, hp2, hp3⟩ := hB.par b (hall b hb) e
        have := hB.nn p hp1
        omega
    | succ k ih =>
      intro b hb hk
      by_cases e : b = a
      · subst e; rw [hB.r0]; simp [FP.dst]
      · obtain ⟨p, hp1, hp2, hp3⟩ := hB.par b (hall b hb) e
        have h1 := ih p (hB.qN p hp1) (by omega)
        have h2 := dst_lips hp ha (hB.qN p hp1) hp2
        omega
  intro b hb
  have h1 := up _ b hb (Nat.le_refl _)
  have h0 := hB.nn b (hall b hb)
  have h2 := down (row b).toNat b hb (by omega)
  omega
end
end Go.Proofs.Qxb6500715aFmt
