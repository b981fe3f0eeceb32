/-
  No conflicts, through the operations: plain.
-/
import Derived.Test.Qxb6500717aGreatNoc
namespace Go.Proofs.Qxb6500717aGreat
open Go.RowKit
set_option linter.unusedSimpArgs false
set_option linter.unusedVariables false

section
variable {T : TabS}
theorem TabS.at_put {r c t : Nat} (ht : T.base ≤ t ∧ t < T.base + 256) (q u : Nat) (hu : T.base ≤ u) : (T.put r c t).at q u = if q = r ∧ u = t then (c : Int) else T.at q u := by
  have hb : (T.put r c t).base = T.base := rfl
  have hs : (T.put r c t).sp = T.sp := rfl
  by_cases hw : T.base ≤ u ∧ u < T.base + 256
  · rw [TabS.at_win (T := T.put r c t) (by rw [hb]; exact hw), TabS.at_win (T := T) hw]
    have hp : (T.put r c t).pl q (u % 256) = if q = r ∧ u % 256 = t % 256 then (c : Int) else T.pl q (u % 256) := rfl
    rw [hp, hs]
    by_cases h : q = r ∧ u = t
    · rw [if_pos (show q = r ∧ u % 256 = t % 256 by rw [h.2]; exact ⟨h.1, rfl⟩), if_pos h, if_pos (by omega)]
    · rw [if_neg (show ¬ (q = r ∧ u % 256 = t % 256) by omega), if_neg h]
  · rw [TabS.at_out (T := T.put r c t) (by rw [hb]; exact hw), TabS.at_out (T := T) hw, hs, if_neg (by omega)]
theorem Noc.put (hb : TBd T) (hc : Con T) (ho : Ord T) (hn : Noc T) {r c t : Nat} (hr : r < T.nr) (hcn : c < T.nc) (ht : T.base ≤ t ∧ t < T.base + 256) (ha : T.at r t = -1) (hh : T.hold c t = -1) (hj : T.joins r c t = false) : Noc (T.put r c t) := by
  have hbase : (T.put r c t).base = T.base := rfl
  have hnr : (T.put r c t).nr = T.nr := rfl
  have A : ∀ q u : Nat, T.base ≤ u → (T.put r c t).at q u = if q = r ∧ u = t then (c : Int) else T.at q u := fun q u hu => TabS.at_put ht q u hu
  have none_c : ∀ q, q < T.nr → T.at q t ≠ (c : Int) := fun q hq => TabS.hold_no hb hc ho hcn ht.1 hh hq
  have hj' : (T.at r ((t : Int) - 1) ≠ -1 → T.swaps (r : Int) (T.at r ((t : Int) - 1)).toNat c ((t : Int) - 1) = false) ∧ (T.at r ((t : Int) + 1) ≠ -1 → T.swaps (r : Int) c (T.at r ((t : Int) + 1)).toNat (t : Int) = false) := by
    unfold TabS.joins at hj
    simp only [Bool.or_eq_false_iff, Bool.and_eq_false_iff, decide_eq_false_iff_not] at hj
    exact ⟨fun h => by rcases hj.1 with h1 | h1; exact absurd h h1; exact h1, fun h => by rcases hj.2 with h1 | h1; exact absurd h h1; exact h1⟩
  -- just before
  have pre : ∀ u q : Nat, u + 1 = t → T.base ≤ u → q < T.nr → q ≠ r → T.at r u ≠ -1 → ¬ (T.at r u = T.at q t ∧ (c : Int) = T.at q u) := by
    intro u q hu hub hq hqr h1 ⟨h2, h3⟩
    have hl := TabS.at_lt hb hr u
    obtain ⟨a, haa⟩ := Int.eq_ofNat_of_zero_le (show 0 ≤ T.at r u by omega)
    have e1 : ((t : Int) - 1) = (u : Int) := by omega
    have h4 := hj'.1 (by rw [e1]; exact h1)
    rw [e1, haa] at h4
    have h4' : T.swaps (r : Int) a c (u : Int) = false := h4
    have hac : a ≠ c := fun e => none_c q hq (by rw [← h2, haa, e])
    have h5 := TabS.swaps_no hb hc ho hn (by omega) hcn hac hub h4' hq hqr
    exact h5 ⟨h3.symm, by rw [hu, ← h2, haa]⟩
  have post : ∀ q : Nat, q < T.nr → q ≠ r → T.at r ((t + 1 : Nat) : Int) ≠ -1 → ¬ ((c : Int) = T.at q ((t + 1 : Nat) : Int) ∧ T.at r ((t + 1 : Nat) : Int) = T.at q t) := by
    intro q hq hqr h1 ⟨h2, h3⟩
    have hl := TabS.at_lt hb hr (t + 1)
    obtain ⟨a, haa⟩ := Int.eq_ofNat_of_zero_le (show 0 ≤ T.at r ((t + 1 : Nat) : Int) by omega)
    have e1 : ((t : Int) + 1) = ((t + 1 : Nat) : Int) := by omega
    have h4 := hj'.2 (by rw [e1]; exact h1)
    rw [e1, haa] at h4
    have h4' : T.swaps (r : Int) c a (t : Int) = false := h4
    have hac : c ≠ a := fun e => none_c q hq (by rw [← h3, haa, e])
    have h5 := TabS.swaps_no hb hc ho hn hcn (by omega) hac ht.1 h4' hq hqr
    exact h5 ⟨by rw [← h3, haa], h2.symm⟩
  refine ⟨fun p q u hp hq hne hu => ?_, fun p q u hp hq hne hu => ?_, fun p u hp h1 h2 h3 => ?_⟩
  · rw [hnr] at hp hq
    rw [hbase] at hu
    rw [A p u hu, A q u hu]
    by_cases e1 : p = r ∧ u = t
    · rw [if_pos e1, if_neg (by omega)]
      intro _ h
      exact none_c q hq (by rw [← e1.2]; exact h.symm)
    · rw [if_neg e1]
      by_cases e2 : q = r ∧ u = t
      · rw [if_pos e2]
        intro _ h
        exact none_c p hp (by rw [← e2.2]; exact h)
      · rw [if_neg e2]
        exact hn.one p q u hp hq hne hu
  · rw [hnr] at hp hq
    rw [hbase] at hu
    rw [A p u hu, A p (u + 1) (by omega), A q u hu, A q (u + 1) (by omega)]
    by_cases e1 : p = r ∧ u = t
    · rw [if_pos e1, if_neg (show ¬ (p = r ∧ u + 1 = t) by omega), if_neg (show ¬ (q = r ∧ u + 1 = t) by omega), if_neg (show ¬ (q = r ∧ u = t) by omega)]
      obtain ⟨rfl, rfl⟩ := e1
      intro _ h1
      exact post q hq (Ne.symm hne) h1
    · rw [if_neg e1]
      by_cases e2 : p = r ∧ u + 1 = t
      · rw [if_pos e2, if_neg (show ¬ (q = r ∧ u + 1 = t) by omega), if_neg (show ¬ (q = r ∧ u = t) by omega)]
        obtain ⟨rfl, e3⟩ := e2
        intro h1 _
        rw [show u + 1 = t from e3]
        exact pre u q e3 hu hq (Ne.symm hne) h1
      · rw [if_neg e2]
        by_cases e3 : q = r ∧ u = t
        · rw [if_pos e3, if_neg (show ¬ (q = r ∧ u + 1 = t) by omega)]
          obtain ⟨rfl, rfl⟩ := e3
          intro h1 h2 h3
          exact post p hp hne (by omega) ⟨by omega, by omega⟩
        · rw [if_neg e3]
          by_cases e4 : q = r ∧ u + 1 = t
          · rw [if_pos e4]
            obtain ⟨rfl, e5⟩ := e4
            intro h1 h2 h3
            have := pre u p e5 hu hp hne (by omega)
            rw [e5] at h3
            exact this ⟨by omega, by omega⟩
          · rw [if_neg e4]
            exact hn.swp p q u hp hq hne hu
  · rw [hnr] at hp
    rw [hbase] at h1 h2
    have hs : (T.put r c t).sp = T.sp := rfl
    have hpl : (T.put r c t).pl p (u % 256) = if p = r ∧ u % 256 = t % 256 then (c : Int) else T.pl p (u % 256) := rfl
    rw [hs]
    rw [hpl] at h3
    by_cases e : p = r ∧ u = t
    · rw [e.1, e.2]
      exact (TabS.at_free ht ha).2
    · rw [if_neg (show ¬ (p = r ∧ u % 256 = t % 256) by omega)] at h3
      exact hn.dsj p u hp h1 h2 h3
theorem Noc.reserve (hb : TBd T) (hc : Con T) (ho : Ord T) (hn : Noc T) (r c t : Int) : Noc (T.reserve r c t).2 := by
  by_cases h0 : (T.reserve r c t).1 = 0
  · obtain ⟨rn, cn, tn, e1, e2, e3, hr, hcn, hw, ha, hh, hj, hcap, e⟩ := TabS.reserve_yes h0
    rw [e]
    exact hn.put hb hc ho hr hcn hw ha hh hj
  · rw [TabS.reserve_no h0]; exact hn
theorem Noc.pathI (r start : Int) : ∀ cs i T, TBd T → Con T → Ord T → Noc T → (TabS.path r start cs i T).1 = 0 → Noc (TabS.path r start cs i T).2.2 := by
  intro cs
  induction cs with
  | nil => intro i T _ _ _ hn _; exact hn
  | cons c cs ih =>
    intro i T hb hc ho hn h
    unfold TabS.path at h ⊢
    by_cases h1 : (T.reserve r c (start + i)).1 = 0
    · rw [if_pos h1] at h ⊢
      exact ih (i + 1) _ (hb.reserve _ _ _) (hc.reserve hb _ _ _) (ho.reserve _ _ _) (hn.reserve hb hc ho _ _ _) h
    · rw [if_neg h1] at h
      exact absurd h h1
theorem Noc.path (hb : TBd T) (hc : Con T) (ho : Ord T) (hn : Noc T) (r start : Int) (cs : List Int) : Noc (TabS.path r start cs 0 T).2.2 := by
  by_cases h : (TabS.path r start cs 0 T).1 = 0
  · exact Noc.pathI r start cs 0 T hb hc ho hn h
  · rw [TabS.path_back r start T cs 0 T hb hc (Or.inl rfl) rfl h]; exact hn
end
end Go.Proofs.Qxb6500717aGreat
