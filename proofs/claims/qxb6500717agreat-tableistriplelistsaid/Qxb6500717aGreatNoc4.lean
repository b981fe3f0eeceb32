/-
  No conflicts behind a truncation and behind a slide of the window: plain.
-/
import Derived.Test.Qxb6500717aGreatNoc3
import Derived.Test.Qxb6500717aGreatLaw7
namespace Go.Proofs.Qxb6500717aGreat
open Go.RowKit
set_option linter.unusedSimpArgs false
set_option linter.unusedVariables false

section
variable {T : TabS}
theorem TabS.drop_pl (T : TabS) (r s q u : Nat) : (T.drop r s).2.pl q u = if q = r ∧ u = s then -1 else T.pl q u := by
  unfold TabS.drop
  split
  · rename_i h
    simp only
    split
    · rename_i e; rw [e.1, e.2]; exact h
    · rfl
  · rfl
theorem TabS.dropN_pl (r : Nat) : ∀ n t T q u, (TabS.dropN r t n T).2.pl q u = T.pl q u ∨ (q = r ∧ (TabS.dropN r t n T).2.pl q u = -1) := by
  intro n
  induction n with
  | zero => intro t T q u; exact Or.inl rfl
  | succ n ih =>
    intro t T q u
    simp only [TabS.dropN]
    rcases ih (t + 1) (T.drop r (t % 256)).2 q u with h | h
    · rw [h, TabS.drop_pl]
      split
      · rename_i e; exact Or.inr ⟨e.1, rfl⟩
      · exact Or.inl rfl
    · exact Or.inr h
theorem TabS.dropN_gone (r : Nat) : ∀ n t T v, t ≤ v → v < t + n → (TabS.dropN r t n T).2.pl r (v % 256) = -1 := by
  intro n
  induction n with
  | zero => intro t T v h1 h2; omega
  | succ n ih =>
    intro t T v h1 h2
    simp only [TabS.dropN]
    by_cases e : v = t
    · subst e
      rcases TabS.dropN_pl r n (v + 1) (T.drop r (v % 256)).2 r (v % 256) with h | h
      · rw [h, TabS.drop_pl, if_pos ⟨rfl, rfl⟩]
      · exact h.2
    · exact ih (t + 1) _ v (by omega) (by omega)
theorem spAt_sub {b : Nat} {l l' : List (Nat × Nat × Nat)} (ho : SOrd b l) {u : Int} (h : ∀ x', x' ∈ l' → (x'.2.1 : Int) ≤ u ∧ u < x'.2.2 → ∃ y, y ∈ l ∧ x'.1 = y.1 ∧ (y.2.1 : Int) ≤ u ∧ u < y.2.2) : spAt l' u = spAt l u ∨ spAt l' u = -1 := by
  by_cases h0 : spAt l' u = -1
  · exact Or.inr h0
  · obtain ⟨x, hx, hcv, e⟩ := spAt_some h0
    obtain ⟨y, hy, e2, hcv2⟩ := h x hx hcv
    refine Or.inl ?_
    rw [e, spAt_mem ho hy hcv2, e2]
/-- Less of the plans, less of the spans, from the new base on. -/
theorem Noc.less {T' : TabS} (hn : Noc T) (h1 : T.base ≤ T'.base) (h2 : T'.nr = T.nr)
    (hp : ∀ r (u : Nat), r < T.nr → T'.base ≤ u → u < T'.base + 256 → T'.pl r (u % 256) ≠ -1 → (T.base ≤ u ∧ u < T.base + 256) ∧ T'.pl r (u % 256) = T.pl r (u % 256))
    (hs : ∀ r (u : Nat), r < T.nr → T'.base ≤ u → spAt (T'.sp r) u = spAt (T.sp r) u ∨ spAt (T'.sp r) u = -1) : Noc T' := by
  refine hn.sub h1 h2 (fun r u hr hu => ?_) (fun r u hr hu1 hu2 h3 => ?_)
  · -- where it comes from spans
    have viaSp : spAt (T'.sp r) u = T.at r u ∨ spAt (T'.sp r) u = -1 := by
      rcases hs r u hr hu with h | h
      · by_cases h0 : spAt (T.sp r) u = -1
        · right; rw [h, h0]
        · left
          rw [h]
          by_cases hw : T.base ≤ u ∧ u < T.base + 256
          · rw [TabS.at_win hw]
            split
            · rename_i hpl
              exact absurd (hn.dsj r u hr hw.1 hw.2 hpl) h0
            · rfl
          · rw [TabS.at_out hw]
      · exact Or.inr h
    by_cases hw : T'.base ≤ u ∧ u < T'.base + 256
    · rw [TabS.at_win hw]
      split
      · rename_i hpl
        obtain ⟨hw2, e⟩ := hp r u hr hw.1 hw.2 hpl
        left
        rw [TabS.at_win hw2, if_pos (by rw [← e]; exact hpl), e]
      · exact viaSp
    · rw [TabS.at_out hw]; exact viaSp
  · obtain ⟨hw2, e⟩ := hp r u hr hu1 hu2 h3
    have := hn.dsj r u hr hw2.1 hw2.2 (by rw [← e]; exact h3)
    rcases hs r u hr hu1 with h | h
    · rw [h]; exact this
    · exact h
theorem spAt_cut {b t : Nat} {l : List (Nat × Nat × Nat)} (ho : SOrd b l) (j : Nat) (u : Int) : spAt (cutL (l.take j) t) u = spAt l u ∨ spAt (cutL (l.take j) t) u = -1 := by
  refine spAt_sub ho (fun x' hx' hcv => ?_)
  obtain ⟨y, hy, e1, e2, e3⟩ := cutL_mem hx'
  exact ⟨y, List.mem_of_mem_take hy, e1, by omega, by omega⟩
theorem Noc.trunc (ho : Ord T) (hn : Noc T) {r : Nat} (hr : r < T.nr) (t : Nat) : Noc (T.trunc r t).2 := by
  have hf := TabS.dropN_fix r (T.base + 256 - t) t T
  have e1 : (T.trunc r t).2.base = T.base := hf.2.1
  have e2 : (T.trunc r t).2.sp = upd T.sp r (cutL ((T.sp r).take (popN (T.sp r) t (T.sp r).length)) t) := by
    simp only [TabS.trunc]
    rw [hf.1]
  have e3 : (T.trunc r t).2.nr = T.nr := hf.2.2.1
  refine hn.less (by omega) e3 (fun q u hq hu1 hu2 h3 => ?_) (fun q u hq hu => ?_)
  · rw [e1] at hu1 hu2
    refine ⟨⟨hu1, hu2⟩, ?_⟩
    rcases TabS.dropN_pl r (T.base + 256 - t) t T q (u % 256) with h | h
    · exact h
    · exact absurd h.2 h3
  · rw [e2]
    by_cases e : q = r
    · subst e
      rw [upd_at]
      exact spAt_cut (ho q hq) _ _
    · rw [upd_ne _ _ e]; exact Or.inl rfl
theorem Noc.cutT (ho : Ord T) (hn : Noc T) (r t : Int) : Noc (T.cutT r t).2 := by
  unfold TabS.cutT
  split
  · rename_i h; exact hn.trunc ho (by omega) _
  · exact hn

/-! the slide -/
theorem TabS.dropR_pl (t : Nat) : ∀ n k T q u, ((TabS.dropR t k n T).pl q u = T.pl q u ∨ (TabS.dropR t k n T).pl q u = -1) ∧ (k ≤ q → q < k + n → u = t % 256 → (TabS.dropR t k n T).pl q u = -1) := by
  intro n
  induction n with
  | zero => intro k T q u; exact ⟨Or.inl rfl, fun h1 h2 => by omega⟩
  | succ n ih =>
    intro k T q u
    simp only [TabS.dropR]
    obtain ⟨h1, h2⟩ := ih (k + 1) (T.drop k (t % 256)).2 q u
    rw [TabS.drop_pl] at h1
    refine ⟨?_, fun h3 h4 h5 => ?_⟩
    · rcases h1 with h | h
      · rw [h]
        split
        · exact Or.inr rfl
        · exact Or.inl rfl
      · exact Or.inr h
    · by_cases e : q = k
      · rw [if_pos ⟨e, h5⟩] at h1
        rcases h1 with h | h <;> exact h
      · exact h2 (by omega) (by omega) h5
theorem TabS.dropA_pl : ∀ n t T q u, ((TabS.dropA t n T).pl q u = T.pl q u ∨ (TabS.dropA t n T).pl q u = -1) ∧ (q < T.nr → ∀ v, t ≤ v → v < t + n → u = v % 256 → (TabS.dropA t n T).pl q u = -1) := by
  intro n
  induction n with
  | zero => intro t T q u; exact ⟨Or.inl rfl, fun _ v h1 h2 => by omega⟩
  | succ n ih =>
    intro t T q u
    simp only [TabS.dropA]
    obtain ⟨h1, h2⟩ := ih (t + 1) (TabS.dropR t 0 T.nr T) q u
    obtain ⟨h3, h4⟩ := TabS.dropR_pl t T.nr 0 T q u
    have hnr := (TabS.dropR_fix t T.nr 0 T).2.2
    refine ⟨?_, fun hq v hv1 hv2 hu => ?_⟩
    · rcases h1 with h | h
      · rw [h]; exact h3
      · exact Or.inr h
    · by_cases e : v = t
      · subst e
        have := h4 (by omega) (by omega) hu
        rcases h1 with h | h
        · rw [h]; exact this
        · exact h
      · exact h2 (by rw [hnr]; exact hq) v (by omega) (by omega) hu
theorem spAt_keep {b to : Nat} {l : List (Nat × Nat × Nat)} (ho : SOrd b l) (u : Int) : spAt (keepSp to l) u = spAt l u ∨ spAt (keepSp to l) u = -1 := by
  refine spAt_sub ho (fun x' hx' hcv => ?_)
  obtain ⟨x, hx, _, rfl⟩ := keepSp_mem hx'
  simp only at hcv
  exact ⟨x, hx, rfl, by omega, hcv.2⟩
theorem Noc.adv (ho : Ord T) (hn : Noc T) {to : Nat} (hto : T.base ≤ to) : Noc (T.adv to) := by
  obtain ⟨k1, k2, k3, k4, k5, k6⟩ := TabS.keepN_fix to T.nr 0 { (TabS.dropA T.base (min to (T.base + 256) - T.base) T) with base := to }
  have hf := TabS.dropA_fix (min to (T.base + 256) - T.base) T.base T
  have e1 : (T.adv to).base = to := k1
  have e2 : (T.adv to).nr = T.nr := by
    have : (T.adv to).nr = (TabS.dropA T.base (min to (T.base + 256) - T.base) T).nr := k2
    rw [this, hf.2.2]
  have e3 : (T.adv to).pl = (TabS.dropA T.base (min to (T.base + 256) - T.base) T).pl := k3
  have e4 : ∀ q, q < T.nr → (T.adv to).sp q = keepSp to (T.sp q) := fun q hq => by
    have : (T.adv to).sp q = keepSp to ((TabS.dropA T.base (min to (T.base + 256) - T.base) T).sp q) := k5 q (by omega)
    rw [this, hf.1]
  refine hn.less (by omega) e2 (fun q u hq hu1 hu2 h3 => ?_) (fun q u hq hu => ?_)
  · rw [e1] at hu1 hu2
    rw [e3] at h3 ⊢
    obtain ⟨d1, d2⟩ := TabS.dropA_pl (min to (T.base + 256) - T.base) T.base T q (u % 256)
    -- the tick of the old window with this slot
    obtain ⟨v, hv1, hv2, hv3⟩ : ∃ v, T.base ≤ v ∧ v < T.base + 256 ∧ v % 256 = u % 256 := by
      refine ⟨T.base + (u + 256 - T.base % 256) % 256, by omega, by omega, by omega⟩
    have hv4 : to ≤ v := by
      rcases Nat.lt_or_ge v to with h | h
      · exact absurd (d2 hq v hv1 (by omega) hv3.symm) h3
      · exact h
    obtain rfl : u = v := by omega
    refine ⟨⟨hv1, hv2⟩, ?_⟩
    rcases d1 with h | h
    · exact h
    · exact absurd h h3
  · rw [e4 q hq]
    exact spAt_keep (ho q hq) _
theorem Noc.advT (ho : Ord T) (hn : Noc T) (to : Int) : Noc (T.advT to) := by
  unfold TabS.advT
  split
  · exact hn
  · split
    · exact hn
    · exact hn.adv ho (by omega)
theorem Noc.new (nc nr cap : Nat) : Noc (TabS.new nc nr cap) := by
  have A : ∀ r (t : Nat), (TabS.new nc nr cap).at r t = -1 := by
    intro r t
    unfold TabS.at
    split
    · rename_i h; exact absurd rfl h.2
    · rfl
  exact ⟨fun r q t _ _ _ _ h => absurd (A r t) h, fun r q t _ _ _ _ h => absurd (A r t) h, fun r t _ _ _ h => absurd rfl h⟩
theorem Noc.step (hb : TBd T) (hc : Con T) (ho : Ord T) (hn : Noc T) (o : Opr) : Noc (T.step o).2 := by
  unfold TabS.step
  split
  · exact hn.advT ho _
  · split
    · exact hn.reserve hb hc ho _ _ _
    · split
      · exact hn.path hb hc ho _ _ _
      · split
        · exact hn.stand hb hc ho _ _ _
        · split
          · exact hn.cutT ho _ _
          · split
            · exact hn.cutT ho _ _
            · split <;> exact hn
end
def NocO (O : Option TabS) : Prop := ∀ T, O = some T → Noc T
theorem NocO.step {O : Option TabS} (h : NocO O) (ho : OrdO O) (hb : ∀ T, O = some T → TBd T ∧ Con T) (o : Opr) : NocO (stepO O o).2 := by
  intro T hT
  unfold stepO at hT
  split at hT
  · unfold stepNew at hT
    split at hT
    · simp only [Option.some.injEq] at hT
      rw [← hT]; exact Noc.new _ _ _
    · exact h T hT
  · split at hT
    · exact h T hT
    · split at hT
      · cases hT
      · rename_i T0
        simp only [Option.some.injEq] at hT
        rw [← hT]; exact (h T0 rfl).step (hb T0 rfl).1 (hb T0 rfl).2 (ho T0 rfl) o
end Go.Proofs.Qxb6500717aGreat
