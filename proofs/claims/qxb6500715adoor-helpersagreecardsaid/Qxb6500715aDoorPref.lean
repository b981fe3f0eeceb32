/-
  Front first, left first: plain.
-/
import Derived.Test.Qxb6500715aDoorRt
namespace Go.Proofs.Qxb6500715aDoor
open Go.RowKit
set_option linter.unusedSimpArgs false
set_option linter.unusedVariables false

/-- Every aisle to the left of the chosen one costs more. -/
theorem cX_left {A P c1 c2 al : Nat} (hP : 2 ≤ P) (h : 1 + al * P < cCol A P (min c1 c2) (max c1 c2)) : cX A P c1 c2 < nab c1 (1 + al * P) + nab c2 (1 + al * P) := by
  revert h
  unfold cX cCol
  obtain ⟨h1, h2⟩ := cR_spec (P := P) (lo := min c1 c2) hP
  generalize hr : cR P (min c1 c2) = r at *
  have hm : (r - 1) * P = r * P - P := by rw [Nat.sub_mul, Nat.one_mul]
  have hcase : (al < r ∧ al * P + P ≤ r * P) ∨ (r ≤ al ∧ r * P ≤ al * P) := by
    by_cases h : al < r
    · left; refine ⟨h, ?_⟩
      have := Nat.mul_le_mul_right P (show al + 1 ≤ r by omega)
      rwa [Nat.add_mul, Nat.one_mul] at this
    · right; exact ⟨by omega, Nat.mul_le_mul_right P (by omega)⟩
  have h0 : r = 0 → r * P = 0 := fun h => by rw [h, Nat.zero_mul]
  have h0' : r ≠ 0 → P ≤ r * P := fun h => by
    have := Nat.mul_le_mul_right P (show 1 ≤ r by omega)
    rwa [Nat.one_mul] at this
  rw [hm]
  generalize r * P = x at *
  generalize al * P = y at *
  unfold nab
  split
  · intro h; omega
  · split
    · have := h0 (by assumption); intro h; omega
    · have := h0' (by assumption)
      split
      · intro h; omega
      · split
        · intro h; omega
        · intro h; omega

section
variable {F : FP}
/-- What stands at a drivable place. -/
theorem kd_cases (hp : Pln F) {r q : Nat} (hd : F.drv r q) : (F.kd (r * F.W + q) = 7 ∧ (r = 0 ∨ r = F.S + 3)) ∨ (F.kd (r * F.W + q) = 5 ∧ r = 1) ∨ (F.kd (r * F.W + q) = 6 ∧ r = F.S + 2) ∨ (F.kd (r * F.W + q) = 4 ∧ 2 ≤ r ∧ r ≤ F.S + 1 ∧ isAc F.A F.P q) := by
  obtain ⟨h1, h2, h3⟩ := hd
  have hS := hp.lay.hS
  rcases (by omega : r = 0 ∨ r = F.S + 3 ∨ r = 1 ∨ r = F.S + 2 ∨ (2 ≤ r ∧ r < F.S + 2)) with h | h | h | h | h
  · exact Or.inl ⟨k_apron hp (Or.inl h) h2 h3, Or.inl h⟩
  · exact Or.inl ⟨k_apron hp (Or.inr h) h2 h3, Or.inr h⟩
  · exact Or.inr (Or.inl ⟨by rw [h]; exact k_front hp h2, h⟩)
  · exact Or.inr (Or.inr (Or.inl ⟨by rw [h]; exact k_back hp h2, h⟩))
  · by_cases hA : F.isA q
    · exact Or.inr (Or.inr (Or.inr ⟨(k_mid hp h h2).1 hA, h.1, by omega, (isA_iff F hp.P2 q).1 hA⟩))
    · rw [(k_mid hp h h2).2 hA] at h3; cases h3
/-- The same of a cell. -/
theorem kc_cases (hp : Pln F) {c : Nat} (hc : c < F.N) : (F.kd (F.pl c) = 7 ∧ (F.row c = 0 ∨ F.row c = F.S + 3)) ∨ (F.kd (F.pl c) = 5 ∧ F.row c = 1) ∨ (F.kd (F.pl c) = 6 ∧ F.row c = F.S + 2) ∨ (F.kd (F.pl c) = 4 ∧ 2 ≤ F.row c ∧ F.row c ≤ F.S + 1 ∧ isAc F.A F.P (F.col c)) := by
  have := kd_cases hp (cell_drv hp hc)
  rwa [(cell_on hp hc).2.2.2.1] at this
/-- A place's cell: row, column, what stands there. -/
theorem idp_spec (hp : Pln F) {r q : Nat} (hd : F.drv r q) : F.idp (r, q) < F.N ∧ F.row (F.idp (r, q)) = r ∧ F.col (F.idp (r, q)) = q := by
  obtain ⟨g1, g2, g3, g4⟩ := id_spec hp.pl hd.1 hd.2.1 hd.2.2
  exact ⟨g1, g3, g4⟩

/-! the places on the way -/
theorem leg_mem (hp : Pln F) : ∀ (n r q r' q' : Nat), dm r q r' q' = n → F.clr r q r' q' → F.drv r q → ∀ p, p ∈ leg n r q r' q' → F.drv p.1 p.2 ∧ p.1 ≤ max r r' ∧ min r r' ≤ p.1 := by
  intro n
  induction n with
  | zero => intro r q r' q' _ _ _ p hm; simp [leg] at hm
  | succ n ih =>
    intro r q r' q' h0 hc hd p hm
    have hne : ¬ (r = r' ∧ q = q') := by
      rintro ⟨rfl, rfl⟩
      rw [dm_self] at h0; omega
    obtain ⟨c1, c2, c3, c4⟩ := clr_step hp hc hd hne
    have ht : (tow r q r' q').1 ≤ max r r' ∧ min r r' ≤ (tow r q r' q').1 := by
      unfold tow
      split
      · simp only; omega
      · split
        · simp only; omega
        · split
          · simp only; omega
          · split <;> (simp only; omega)
    rcases List.mem_cons.1 hm with rfl | h
    · exact ⟨c2, ht⟩
    · have := ih _ _ r' q' (by omega) c1 c2 p h
      refine ⟨this.1, ?_, ?_⟩ <;> omega
theorem legs_mem (hp : Pln F) (M : Nat) : ∀ (U : List (Nat × Nat)) (r q : Nat), F.chn r q U → F.drv r q → r ≤ M → (∀ t, t ∈ U → t.1 ≤ M) → ∀ p, p ∈ legs r q U → F.drv p.1 p.2 ∧ p.1 ≤ M := by
  intro U
  induction U with
  | nil => intro r q _ _ _ _ p hm; simp [legs] at hm
  | cons t ts ih =>
    intro r q hc hd hr hU p hm
    rcases List.mem_append.1 hm with h | h
    · have h1 := leg_mem hp _ r q t.1 t.2 rfl hc.1 hd p h
      have h2 := hU t (by simp)
      exact ⟨h1.1, by omega⟩
    · exact ih t.1 t.2 hc.2 (clr_lt hc.1 hp) (hU t (by simp)) (fun x hx => hU x (by simp [hx])) p h

/-- The way by the front is no longer: the route keeps off the back cross aisle. -/
theorem front_ok (hp : Pln F) {a b : Nat} (ha : a < F.N) (hb : b < F.N) (ka : F.kd (F.pl a) = 4) (kb : F.kd (F.pl b) = 4) (hq : F.col a ≠ F.col b)
    (hd : (F.row a - 1) + nab (F.col a) (F.col b) + (F.row b - 1) ≤ F.dst a b) : ∀ c, c ∈ F.rte a b → c < F.N ∧ F.kd (F.pl c) ≠ 6 := by
  have hS := hp.lay.hS
  have ca := kc_cases hp ha
  have cb := kc_cases hp hb
  rw [ka] at ca
  rw [kb] at cb
  simp at ca cb
  have na : ¬ F.isB a := by unfold FP.isB; rw [ka]; decide
  have nb : ¬ F.isB b := by unfold FP.isB; rw [kb]; decide
  have ea : F.ar a = F.row a := by unfold FP.ar; rw [if_neg na]
  have eb : F.ar b = F.row b := by unfold FP.ar; rw [if_neg nb]
  have xa : ¬ isX F.S (F.row a) := by omega
  have xb : ¬ isX F.S (F.row b) := by omega
  rw [dst_nb hp nb ha hb, ea, ad_iid xa xb hq] at hd
  have ex0 : F.ex a = 0 := by unfold FP.ex; rw [if_neg na]
  rw [ex0] at hd
  have hne : a ≠ b := fun e => hq (by rw [e])
  obtain ⟨t1, t2, t3⟩ := trn_spec hp ha hb
  have htr : F.trn a b = [(F.row a, F.col a), (1, F.col a), (1, F.col b), (F.row b, F.col b), (F.row b, F.col b)] := by
    unfold FP.trn bnd
    rw [if_neg hne, ea, eb, if_neg (fun h => xa h.1), if_neg hq, if_neg xa, if_neg xb, if_neg (by omega)]
    rfl
  have hm := legs_mem hp (F.S + 1) (F.trn a b) (F.row a) (F.col a) t1 (cell_drv hp ha) (by omega) (by
    rw [htr]; intro t ht
    simp at ht
    rcases ht with rfl | rfl | rfl | rfl <;> simp only <;> omega)
  intro c hc
  unfold FP.rte at hc
  rcases List.mem_cons.1 hc with rfl | h
  · exact ⟨ha, by rw [ka]; decide⟩
  · obtain ⟨p, hpm, rfl⟩ := List.mem_map.1 h
    obtain ⟨pd, pM⟩ := hm p hpm
    obtain ⟨i1, i2, i3⟩ := idp_spec hp (r := p.1) (q := p.2) pd
    refine ⟨i1, fun h6 => ?_⟩
    have := kc_cases hp i1
    rw [i2] at this
    rw [show F.kd (F.pl (F.idp p)) = 6 from h6] at this
    simp at this
    omega

/-- From one cross aisle to the other: the first aisle cell of the route stands in the chosen column. -/
theorem left_at (hp : Pln F) {a b : Nat} (ha : a < F.N) (hb : b < F.N) (xa : isX F.S (F.row a)) (xb : isX F.S (F.row b)) (hr : F.row a ≠ F.row b) :
    ∃ (k c : Nat), k ≤ F.dst a b ∧ (∀ (i d : Nat), i < k → (F.rte a b)[i]? = some d → d < F.N ∧ F.kd (F.pl d) ≠ 4) ∧ (F.rte a b)[k]? = some c ∧ c < F.N ∧ F.kd (F.pl c) = 4 ∧ F.col c = cCol F.A F.P (min (F.col a) (F.col b)) (max (F.col a) (F.col b)) := by
  have hS := hp.lay.hS
  have ca := kc_cases hp ha
  have cb := kc_cases hp hb
  have na : ¬ F.isB a := by intro h; unfold FP.isB at h; rw [h] at ca; simp at ca; omega
  have nb : ¬ F.isB b := by intro h; unfold FP.isB at h; rw [h] at cb; simp at cb; omega
  have ea : F.ar a = F.row a := by unfold FP.ar; rw [if_neg na]
  have eb : F.ar b = F.row b := by unfold FP.ar; rw [if_neg nb]
  have hne : a ≠ b := fun e => hr (by rw [e])
  obtain ⟨t1, t2, t3⟩ := trn_spec hp ha hb
  obtain ⟨x, hx⟩ : ∃ x, cCol F.A F.P (min (F.col a) (F.col b)) (max (F.col a) (F.col b)) = x := ⟨_, rfl⟩
  have htr : F.trn a b = [(F.row a, F.col a), (F.row a, x), (F.row b, x), (F.row b, F.col b), (F.row b, F.col b)] := by
    unfold FP.trn bnd
    rw [if_neg hne, ea, eb, if_pos ⟨xa, xb⟩, if_neg hr, hx]
    rfl
  rw [htr] at t1 t2
  obtain ⟨u1, u2, u3, u4⟩ := t1
  have hda := cell_drv hp ha
  have hdx := clr_lt u2 hp
  have hrows := leg_mem hp _ (F.row a) (F.col a) (F.row a) x rfl u2 hda
  have hn2 : dm (F.row a) x (F.row b) x = dm (F.row a) x (F.row b) x - 1 + 1 := by unfold dm nab; omega
  obtain ⟨v1, v2, v3, v4⟩ := clr_step hp u3 hdx (fun h => hr h.1)
  have hleg3 : leg (dm (F.row a) x (F.row b) x) (F.row a) x (F.row b) x = tow (F.row a) x (F.row b) x :: leg (dm (F.row a) x (F.row b) x - 1) (tow (F.row a) x (F.row b) x).1 (tow (F.row a) x (F.row b) x).2 (F.row b) x := by rw [hn2]; rfl
  obtain ⟨r3, q3, htw⟩ : ∃ r3 q3, tow (F.row a) x (F.row b) x = (r3, q3) := ⟨_, _, rfl⟩
  rw [htw] at v2 hleg3
  simp only at v2 hleg3
  have hr3 : q3 = x ∧ 2 ≤ r3 ∧ r3 ≤ F.S + 1 := by
    unfold tow at htw
    split at htw
    · simp at htw; omega
    · split at htw
      · simp at htw; omega
      · omega
  obtain ⟨rfl, hr3a, hr3b⟩ := hr3
  obtain ⟨i1, i2, i3⟩ := idp_spec hp (r := r3) (q := q3) v2
  have kc := kc_cases hp i1
  rw [i2] at kc
  have hlist : F.rte a b = (a :: (leg (dm (F.row a) (F.col a) (F.row a) q3) (F.row a) (F.col a) (F.row a) q3).map F.idp) ++ F.idp (r3, q3) :: ((leg (dm (F.row a) q3 (F.row b) q3 - 1) r3 q3 (F.row b) q3 ++ legs (F.row b) q3 [(F.row b, F.col b), (F.row b, F.col b)]).map F.idp) := by
    unfold FP.rte
    rw [htr]
    have e0 : legs (F.row a) (F.col a) [(F.row a, F.col a), (F.row a, q3), (F.row b, q3), (F.row b, F.col b), (F.row b, F.col b)] = leg (dm (F.row a) (F.col a) (F.row a) (F.col a)) (F.row a) (F.col a) (F.row a) (F.col a) ++ (leg (dm (F.row a) (F.col a) (F.row a) q3) (F.row a) (F.col a) (F.row a) q3 ++ (leg (dm (F.row a) q3 (F.row b) q3) (F.row a) q3 (F.row b) q3 ++ legs (F.row b) q3 [(F.row b, F.col b), (F.row b, F.col b)])) := rfl
    rw [e0, hleg3, dm_self]
    simp [leg]
  have hlen : (a :: (leg (dm (F.row a) (F.col a) (F.row a) q3) (F.row a) (F.col a) (F.row a) q3).map F.idp).length = dm (F.row a) (F.col a) (F.row a) q3 + 1 := by simp [leg_len]
  refine ⟨dm (F.row a) (F.col a) (F.row a) q3 + 1, F.idp (r3, q3), ?_, ?_, ?_, i1, ?_, ?_⟩
  · have := (rte_spec hp ha hb).2
    rw [hlist, List.length_append, hlen] at this
    simp only [List.length_cons] at this
    omega
  · intro i d hi hd
    rw [hlist, List.getElem?_append_left (by omega)] at hd
    have hmem := List.mem_of_getElem? hd
    rcases List.mem_cons.1 hmem with rfl | h
    · refine ⟨ha, fun h4 => ?_⟩
      rw [h4] at ca; simp at ca; omega
    · obtain ⟨p, hpm, rfl⟩ := List.mem_map.1 h
      obtain ⟨pd, p1, p2⟩ := hrows p hpm
      obtain ⟨j1, j2, j3⟩ := idp_spec hp (r := p.1) (q := p.2) pd
      refine ⟨j1, fun h4 => ?_⟩
      have := kc_cases hp j1
      rw [j2] at this
      rw [show F.kd (F.pl (F.idp p)) = 4 from h4] at this
      simp at this
      omega
  · rw [hlist, List.getElem?_append_right (by omega), hlen, Nat.sub_self]; rfl
  · omega
  · rw [i3, hx]
end
end Go.Proofs.Qxb6500715aDoor
