/-
  A refused path leaves the table as it was: plain.
-/
import Derived.Test.Qxb6500717aGreatOrd
namespace Go.Proofs.Qxb6500717aGreat
open Go.RowKit
set_option linter.unusedSimpArgs false
set_option linter.unusedVariables false

section
variable {T : TabS}
theorem TabS.undo_keeps (T : TabS) (r start : Nat) : ∀ k, (∀ s, T.pl r s = -1 → (T.undo r start k).pl r s = -1) ∧ (∀ x, T.gr x = 0 → (T.undo r start k).gr x = 0) ∧ (T.undo r start k).nc = T.nc := by
  intro k
  induction k with
  | zero => exact ⟨fun _ h => h, fun _ h => h, rfl⟩
  | succ k ih =>
    obtain ⟨h1, h2, h3⟩ := ih
    simp only [TabS.undo]
    refine ⟨fun s hs => ?_, fun x hx => ?_, by rw [TabS.drop_nc]; exact h3⟩
    · unfold TabS.drop
      split
      · exact h1 s hs
      · simp only [upd2]
        split
        · rfl
        · exact h1 s hs
    · unfold TabS.drop
      split
      · exact h2 x hx
      · simp only [upd]
        split
        · rfl
        · exact h2 x hx
theorem TabS.undo_ok {r start : Nat} (hb : TBd T) (hc : Con T) (hr : r < T.nr) : ∀ k, TBd (T.undo r start k) ∧ Con (T.undo r start k) := by
  intro k
  induction k with
  | zero => exact ⟨hb, hc⟩
  | succ k ih =>
    simp only [TabS.undo]
    exact ⟨ih.1.drop _ _, ih.2.drop (by rw [(TabS.undo_fix T r start k).2.2]; exact hr) (Nat.mod_lt _ (by omega)) ih.1⟩
theorem TabS.drop_put {r c t : Nat} (hp : T.pl r (t % 256) = -1) (hg : T.gr (t % 256 * T.nc + c) = 0) : ((T.put r c t).drop r (t % 256)).2 = T := by
  have e : (T.put r c t).pl r (t % 256) = (c : Int) := by simp [TabS.put, upd2]
  unfold TabS.drop
  rw [e, if_neg (by omega)]
  refine TabS.eta rfl rfl rfl rfl ?_ ?_ ?_ rfl
  · show T.held + 1 - 1 = T.held
    omega
  · show upd (upd T.gr (t % 256 * T.nc + c) _) (t % 256 * T.nc + (c : Int).toNat) 0 = T.gr
    rw [Int.toNat_natCast, upd_upd]
    funext j
    unfold upd
    split
    · rename_i h; rw [h]; exact hg.symm
    · rfl
  · show upd2 (upd2 T.pl r (t % 256) c) r (t % 256) (-1) = T.pl
    funext q s
    unfold upd2
    split
    · rename_i h; rw [h.1, h.2]; exact hp.symm
    · rfl
theorem TabS.put_drop {r c t s : Nat} (hb : TBd T) (hc : Con T) (hr : r < T.nr) (hcc : c < T.nc) (hs : s < 256) (hne : s ≠ t % 256) : ((T.put r c t).drop r s).2 = (T.drop r s).2.put r c t := by
  have e : (T.put r c t).pl r s = T.pl r s := by simp [TabS.put, upd2, hne]
  unfold TabS.drop
  rw [e]
  split
  · rfl
  · rename_i hp
    have hpos := hc.pos hr hs hp
    have hpl := hb.pl r s hr hs
    obtain ⟨p, hpp⟩ := Int.eq_ofNat_of_zero_le (show 0 ≤ T.pl r s by omega)
    have hpn : p < T.nc := by omega
    refine TabS.eta rfl rfl rfl rfl ?_ ?_ ?_ rfl
    · show T.held + 1 - 1 = T.held - 1 + 1
      omega
    · show upd (upd T.gr (t % 256 * T.nc + c) _) (s * T.nc + (T.pl r s).toNat) 0 = upd (upd T.gr (s * T.nc + (T.pl r s).toNat) 0) (t % 256 * T.nc + c) _
      rw [hpp, Int.toNat_natCast]
      have hix : s * T.nc + p ≠ t % 256 * T.nc + c := fun e => hne (gr_ix hpn hcc e).1
      funext j
      unfold upd
      by_cases h1 : j = s * T.nc + p
      · rw [if_pos h1, if_neg (by omega), if_pos h1]
      · rw [if_neg h1, if_neg h1]
    · show upd2 (upd2 T.pl r (t % 256) c) r s (-1) = upd2 (upd2 T.pl r s (-1)) r (t % 256) c
      funext q u
      unfold upd2
      by_cases h1 : q = r ∧ u = s
      · rw [if_pos h1, if_neg (by omega), if_pos h1]
      · rw [if_neg h1, if_neg h1]
theorem TabS.put_undo {r c start i : Nat} (hb : TBd T) (hc : Con T) (hr : r < T.nr) (hcc : c < T.nc) (hi : i < 256) : ∀ k, k ≤ i → (T.put r c (start + i)).undo r start k = (T.undo r start k).put r c (start + i) := by
  intro k
  induction k with
  | zero => intro _; rfl
  | succ k ih =>
    intro hk
    simp only [TabS.undo]
    rw [ih (by omega)]
    obtain ⟨h1, h2⟩ := TabS.undo_ok (start := start) hb hc hr k
    refine TabS.put_drop h1 h2 (by rw [(TabS.undo_fix T r start k).2.2]; exact hr) (by rw [(TabS.undo_keeps T r start k).2.2]; exact hcc) (Nat.mod_lt _ (by omega)) (by omega)
theorem TBd.reserve (hb : TBd T) (r c t : Int) : TBd (T.reserve r c t).2 := by
  by_cases h0 : (T.reserve r c t).1 = 0
  · obtain ⟨rn, cn, tn, -, -, -, hr, hc, hw, ha, hh, -, hcap, e⟩ := TabS.reserve_yes h0
    rw [e]
    refine { hb with held := ?_, gr := ?_, pl := ?_ }
    · show T.held + 1 ≤ T.cap
      omega
    · intro i hi
      show 0 ≤ upd T.gr _ _ i ∧ upd T.gr _ _ i ≤ (T.nr : Int)
      unfold upd
      split
      · exact ⟨by omega, by omega⟩
      · exact hb.gr i hi
    · intro q u hq hu
      show -1 ≤ upd2 T.pl _ _ _ q u ∧ upd2 T.pl _ _ _ q u < (T.nc : Int)
      unfold upd2
      split
      · exact ⟨by omega, by omega⟩
      · exact hb.pl q u hq hu
  · rw [TabS.reserve_no h0]; exact hb

theorem TabS.path_back (r start : Int) (T0 : TabS) : ∀ cs i T, TBd T → Con T → (i = 0 ∨ (0 ≤ r ∧ r < T.nr ∧ (T.base : Int) ≤ start)) → T.undo r.toNat start.toNat i = T0 → (TabS.path r start cs i T).1 ≠ 0 → (TabS.path r start cs i T).2.2 = T0 := by
  intro cs
  induction cs with
  | nil => intro i T _ _ _ _ h; exact absurd rfl h
  | cons c cs ih =>
    intro i T hb hc hi h0 h
    unfold TabS.path at h ⊢
    by_cases h1 : (T.reserve r c (start + i)).1 = 0
    · rw [if_pos h1] at h ⊢
      obtain ⟨rn, cn, tn, e1, e2, e3, hr, hcn, hw, ha, hh, hj, hcap, e⟩ := TabS.reserve_yes h1
      have hbase := hb.base
      have hst : (T.base : Int) ≤ start := by
        rcases hi with rfl | hi
        · simp at e3; omega
        · exact hi.2.2
      obtain ⟨st, rfl⟩ := Int.eq_ofNat_of_zero_le (show 0 ≤ start by omega)
      have hti : tn = st + i := by omega
      have hi256 : i < 256 := by omega
      refine ih (i + 1) _ (hb.reserve _ _ _) (hc.reserve hb _ _ _) (Or.inr ?_) ?_ h
      · rw [(TabS.reserve_fix T r c _).2.1, (TabS.reserve_fix T r c _).2.2]
        exact ⟨by omega, by omega, hst⟩
      · rw [e]
        simp only [TabS.undo]
        subst e1
        simp only [Int.toNat_natCast] at h0 ⊢
        subst hti
        rw [TabS.put_undo hb hc hr hcn hi256 i (Nat.le_refl _), h0]
        have hk := TabS.undo_keeps T rn st i
        rw [h0] at hk
        refine TabS.drop_put (hk.1 _ (TabS.at_free hw ha).1) ?_
        rw [hk.2.2]
        exact hk.2.1 _ (TabS.hold_free hb hcn hw hh).1
    · rw [if_neg h1]
      exact h0
end
end Go.Proofs.Qxb6500717aGreat
