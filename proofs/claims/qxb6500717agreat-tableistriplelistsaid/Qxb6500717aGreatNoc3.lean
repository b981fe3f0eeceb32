/-
  No conflicts, through the rest of the operations: plain.
-/
import Derived.Test.Qxb6500717aGreatNoc2
namespace Go.Proofs.Qxb6500717aGreat
open Go.RowKit
set_option linter.unusedSimpArgs false
set_option linter.unusedVariables false

section
variable {T : TabS}
theorem TabS.anyPl_no {r : Nat} : ∀ n t, T.anyPl r t n = false → ∀ u, t ≤ u → u < t + n → T.pl r (u % 256) = -1 := by
  intro n
  induction n with
  | zero => intro t _ u h1 h2; omega
  | succ n ih =>
    intro t h u h1 h2
    unfold TabS.anyPl at h
    split at h
    · rename_i h0
      by_cases e : u = t
      · rw [e]; exact h0
      · exact ih (t + 1) h u (by omega) (by omega)
    · cases h
theorem TabS.anyGr_no {r c : Nat} : ∀ n t, T.anyGr r c t n = false → ∀ u, t ≤ u → u < t + n → ¬ (T.gr (u % 256 * T.nc + c) ≠ 0 ∧ T.gr (u % 256 * T.nc + c) - 1 ≠ r) := by
  intro n
  induction n with
  | zero => intro t _ u h1 h2; omega
  | succ n ih =>
    intro t h u h1 h2
    unfold TabS.anyGr at h
    split at h
    · cases h
    · rename_i h0
      by_cases e : u = t
      · rw [e]; exact h0
      · exact ih (t + 1) h u (by omega) (by omega)
theorem spLate_no {l : List (Nat × Nat × Nat)} {c t : Nat} (h : spLate l c t = false) : ∀ x, x ∈ l → ¬ (x.1 = c ∧ t < x.2.2) := by
  induction l with
  | nil => intro x hx; cases hx
  | cons y l ih =>
    unfold spLate at h
    split at h
    · cases h
    · rename_i h0
      intro x hx
      rcases List.mem_cons.1 hx with rfl | hx
      · exact h0
      · exact ih h x hx
theorem TabS.late_no {r c t : Nat} : ∀ n k, T.late r c t k n = false → ∀ q, k ≤ q → q < k + n → q ≠ r → spLate (T.sp q) c t = false := by
  intro n
  induction n with
  | zero => intro k _ q h1 h2; omega
  | succ n ih =>
    intro k h q h1 h2 hne
    unfold TabS.late at h
    split at h
    · cases h
    · rename_i h0
      by_cases e : q = k
      · subst e
        cases hs : spLate (T.sp q) c t with
        | false => rfl
        | true => exact absurd ⟨hne, hs⟩ h0
      · exact ih (k + 1) h q (by omega) (by omega) hne
/-- If the answer to 'freeFrom' is yes no other robot is on the cell from the tick on. -/
theorem TabS.free_yes (hb : TBd T) (hc : Con T) {r c t : Nat} (hcn : c < T.nc) (ht : T.base ≤ t) (h : T.free r c t = true) {q u : Nat} (hq : q < T.nr) (hqr : q ≠ r) (hu : t ≤ u) : T.at q u ≠ (c : Int) := by
  unfold TabS.free at h
  simp only [Bool.not_eq_true', Bool.or_eq_false_iff] at h
  intro ha
  have hsp : spAt (T.sp q) u ≠ (c : Int) := by
    intro h1
    obtain ⟨x, hx, hx2, hx3⟩ := spAt_some (l := T.sp q) (t := (u : Int)) (by omega)
    have := spLate_no (TabS.late_no T.nr 0 h.2 q (by omega) (by omega) hqr) x hx
    exact this ⟨by omega, by omega⟩
  by_cases hw : T.base ≤ u ∧ u < T.base + 256
  · rw [TabS.at_win hw] at ha
    split at ha
    · have h1 := hc.gp q (u % 256) c hq (Nat.mod_lt _ (by omega)) ha
      have h2 := TabS.anyGr_no _ _ h.1 u hu (by omega)
      exact h2 ⟨by omega, by omega⟩
    · exact hsp ha
  · rw [TabS.at_out hw] at ha
    exact hsp ha
theorem spAt_app (l : List (Nat × Nat × Nat)) (x : Nat × Nat × Nat) (t : Int) : spAt (l ++ [x]) t = if spAt l t ≠ -1 then spAt l t else if (x.2.1 : Int) ≤ t ∧ t < x.2.2 then (x.1 : Int) else -1 := by
  induction l with
  | nil => simp [spAt]
  | cons y l ih =>
    rw [List.cons_append]
    unfold spAt
    by_cases h : (y.2.1 : Int) ≤ t ∧ t < y.2.2
    · rw [if_pos h, if_pos h, if_pos (by omega)]
    · rw [if_neg h, if_neg h]; exact ih
/-- A robot that is not busy from a tick on is nowhere from then on. -/
theorem TabS.busy_no (ho : Ord T) {r t : Nat} (hr : r < T.nr) (ht : T.base ≤ t) (h : T.busy r t = false) {u : Nat} (hu : t ≤ u) : (T.base ≤ u → u < T.base + 256 → T.pl r (u % 256) = -1) ∧ spAt (T.sp r) u = -1 := by
  unfold TabS.busy at h
  simp only [Bool.or_eq_false_iff] at h
  refine ⟨fun h1 h2 => TabS.anyPl_no _ _ h.1 u hu (by omega), ?_⟩
  rw [spAt_none]
  intro x hx hcv
  have hall : x.2.2 ≤ t := by
    have hl := h.2
    have hord := ho r hr
    revert hx hl hord
    generalize T.sp r = l
    intro hx hl hord
    rcases List.eq_nil_or_concat l with rfl | ⟨l', y, rfl⟩
    · cases hx
    · unfold lastBusy at hl
      rw [List.concat_eq_append] at *
      rw [List.getLast?_concat] at hl
      simp only [decide_eq_false_iff_not, Nat.not_lt] at hl
      rcases List.mem_append.1 hx with hx | hx
      · have h1 := (List.pairwise_append.1 hord.2).2.2 x hx y (by simp)
        have h2 := (hord.1 y (by simp)).2
        omega
      · simp at hx; subst hx; exact hl
  omega
theorem Noc.sit (hb : TBd T) (hc : Con T) (ho : Ord T) (hn : Noc T) {r c t : Nat} (hr : r < T.nr) (hcn : c < T.nc) (ht : T.base ≤ t ∧ t < T.base + 256) (hbz : T.busy r t = false) (hf : T.free r c t = true)
    (hsw : (decide (T.at r ((t : Int) - 1) ≠ -1) && T.swaps (r : Int) (T.at r ((t : Int) - 1)).toNat c ((t : Int) - 1)) = false) : Noc (T.sit r c t) := by
  have hbase : (T.sit r c t).base = T.base := rfl
  have hnr : (T.sit r c t).nr = T.nr := rfl
  have hpl : (T.sit r c t).pl = T.pl := rfl
  have hq' : ∀ q, q ≠ r → (T.sit r c t).sp q = T.sp q := fun q hq => upd_ne _ _ hq
  have hr' : (T.sit r c t).sp r = T.sp r ++ [(c, t, 1099511627776)] := upd_at _ _ _
  have A1 : ∀ q u : Nat, q ≠ r → (T.sit r c t).at q u = T.at q u := by
    intro q u hq
    unfold TabS.at TabS.win
    rw [hpl, hq' q hq, hbase]
  have A2 : ∀ u : Nat, u < t → (T.sit r c t).at r u = T.at r u := by
    intro u hu
    unfold TabS.at TabS.win
    rw [hpl, hr', hbase, spAt_app]
    simp only
    split
    · rfl
    · split
      · rfl
      · rename_i h1
        rw [if_neg (by omega)]
        omega
  have A3 : ∀ u : Nat, t ≤ u → (T.sit r c t).at r u = (c : Int) ∨ (T.sit r c t).at r u = -1 := by
    intro u hu
    obtain ⟨h1, h2⟩ := TabS.busy_no ho hr ht.1 hbz hu
    have hsp : spAt ((T.sit r c t).sp r) u = (c : Int) ∨ spAt ((T.sit r c t).sp r) u = -1 := by
      rw [hr', spAt_app, h2]
      simp only
      rw [if_neg (by simp)]
      split
      · exact Or.inl rfl
      · exact Or.inr rfl
    by_cases hw : T.base ≤ u ∧ u < T.base + 256
    · rw [TabS.at_win (T := T.sit r c t) (by rw [hbase]; exact hw), hpl, if_neg (by rw [h1 hw.1 hw.2]; simp)]
      exact hsp
    · rw [TabS.at_out (T := T.sit r c t) (by rw [hbase]; exact hw)]
      exact hsp
  have F : ∀ q u : Nat, q < T.nr → q ≠ r → t ≤ u → T.at q u ≠ (c : Int) := fun q u hq hqr hu => TabS.free_yes hb hc hcn ht.1 hf hq hqr hu
  -- just before
  have pre : ∀ u q : Nat, u + 1 = t → T.base ≤ u → q < T.nr → q ≠ r → T.at r u ≠ -1 → ¬ (T.at r u = T.at q t ∧ (c : Int) = T.at q u) := by
    intro u q hu hub hq hqr h1 ⟨h2, h3⟩
    have hl := TabS.at_lt hb hr u
    obtain ⟨a, haa⟩ := Int.eq_ofNat_of_zero_le (show 0 ≤ T.at r u by omega)
    have e1 : ((t : Int) - 1) = (u : Int) := by omega
    rw [e1] at hsw
    have h4 : T.swaps (r : Int) (T.at r u).toNat c (u : Int) = false := by
      simp only [Bool.and_eq_false_iff, decide_eq_false_iff_not] at hsw
      rcases hsw with h | h
      · exact absurd h1 h
      · exact h
    rw [haa] at h4
    have h4' : T.swaps (r : Int) a c (u : Int) = false := h4
    have hac : a ≠ c := fun e => F q t hq hqr (Nat.le_refl _) (by rw [← h2, haa, e])
    exact TabS.swaps_no hb hc ho hn (by omega) hcn hac hub h4' hq hqr ⟨h3.symm, by rw [hu, ← h2, haa]⟩
  refine ⟨fun p q u hp hq hne hu => ?_, fun p q u hp hq hne hu => ?_, fun p u hp h1 h2 h3 => ?_⟩
  · rw [hnr] at hp hq
    rw [hbase] at hu
    by_cases e1 : p = r
    · subst e1
      rw [A1 q u (Ne.symm hne)]
      by_cases hlt : u < t
      · rw [A2 u hlt]; exact hn.one p q u hp hq hne hu
      · intro h1 h2
        rcases A3 u (by omega) with h3 | h3
        · exact F q u hq (Ne.symm hne) (by omega) (by rw [← h2, h3])
        · exact h1 h3
    · rw [A1 p u e1]
      by_cases e2 : q = r
      · subst e2
        by_cases hlt : u < t
        · rw [A2 u hlt]; exact hn.one p q u hp hq hne hu
        · intro h1 h2
          rcases A3 u (by omega) with h3 | h3
          · exact F p u hp hne (by omega) (by rw [h2, h3])
          · exact h1 (by rw [h2, h3])
      · rw [A1 q u e2]; exact hn.one p q u hp hq hne hu
  · rw [hnr] at hp hq
    rw [hbase] at hu
    -- one of them is r: call it r, the other x
    have core : ∀ x : Nat, x < T.nr → x ≠ r → (T.sit r c t).at r u ≠ -1 → (T.sit r c t).at r ((u + 1 : Nat) : Int) ≠ -1 → ¬ ((T.sit r c t).at r u = T.at x ((u + 1 : Nat) : Int) ∧ (T.sit r c t).at r ((u + 1 : Nat) : Int) = T.at x u) := by
      intro x hx hxr h1 h2 ⟨h3, h4⟩
      by_cases hlt : u + 1 < t
      · rw [A2 u (by omega)] at h1 h3
        rw [A2 (u + 1) hlt] at h2 h4
        exact hn.swp r x u hr hx (Ne.symm hxr) hu h1 h2 ⟨h3, h4⟩
      · rcases A3 (u + 1) (by omega) with h5 | h5
        · by_cases hlt2 : u < t
          · have e : u + 1 = t := by omega
            rw [A2 u hlt2] at h1 h3
            rw [h5] at h4
            have := pre u x e hu hx hxr h1
            rw [e] at h3
            exact this ⟨h3, h4⟩
          · rcases A3 u (by omega) with h6 | h6
            · exact F x (u + 1) hx hxr (by omega) (by rw [← h3, h6])
            · exact h1 h6
        · exact h2 h5
    by_cases e1 : p = r
    · subst e1
      rw [A1 q u (Ne.symm hne), A1 q (u + 1) (Ne.symm hne)]
      exact core q hq (Ne.symm hne)
    · rw [A1 p u e1, A1 p (u + 1) e1]
      by_cases e2 : q = r
      · subst e2
        intro h1 h2 ⟨h3, h4⟩
        exact core p hp hne (by omega) (by omega) ⟨by omega, by omega⟩
      · rw [A1 q u e2, A1 q (u + 1) e2]; exact hn.swp p q u hp hq hne hu
  · rw [hnr] at hp
    rw [hbase] at h1 h2
    rw [hpl] at h3
    by_cases e : p = r
    · subst e
      by_cases hlt : u < t
      · rw [hr', spAt_app, hn.dsj p u hp h1 h2 h3]
        simp only
        rw [if_neg (by simp), if_neg (by omega)]
      · exact absurd ((TabS.busy_no ho hp ht.1 hbz (show t ≤ u by omega)).1 h1 h2) h3
    · rw [hq' p e]
      exact hn.dsj p u hp h1 h2 h3
theorem Noc.stand (hb : TBd T) (hc : Con T) (ho : Ord T) (hn : Noc T) (r c t : Int) : Noc (T.stand r c t).2 := by
  by_cases h0 : (T.stand r c t).1 = 0
  · obtain ⟨rn, cn, tn, -, -, -, hr, hcn, hw, hbz, hf, hsw, -, e⟩ := TabS.stand_yes h0
    rw [e]
    exact hn.sit hb hc ho hr hcn hw hbz hf hsw
  · rw [TabS.stand_no h0]; exact hn
end
end Go.Proofs.Qxb6500717aGreat
