/-
  The table against the model's lists: where a robot is, who is on a cell, how many there are.
-/
import Derived.Test.Qxb6500717aGreatFore
import Derived.Test.Qxb6500717aGreatMd11
namespace Go.Proofs.Qxb6500717aGreat
open Go.RowKit
set_option linter.unusedSimpArgs false
set_option linter.unusedVariables false

structure RT (T : TabS) (S : MdS) : Prop where
  nc : S.nc = T.nc
  nr : S.nr = T.nr
  cap : S.cap = T.cap
  base : S.base = T.base
  tm : ∀ r c t : Nat, (r, c, t) ∈ S.tr ↔ r < T.nr ∧ T.base ≤ t ∧ t < T.base + 256 ∧ T.pl r (t % 256) = (c : Int)
  nd : S.tr.Nodup
  sp : ∀ r, r < T.nr → (S.sp.filter (fun x => decide (x.1 = r))).map (fun x => x.2) = T.sp r
  sr : ∀ x, x ∈ S.sp → x.1 < T.nr
section
variable {T : TabS} {S : MdS}

theorem trF_some {l : List (Nat × Nat × Nat)} {r : Nat} {t : Int} {c : Nat} (h : trF l r t = some c) : ∃ tn : Nat, t = tn ∧ (r, c, tn) ∈ l := by
  induction l with
  | nil => simp [trF] at h
  | cons x l ih =>
    simp only [trF] at h
    split at h
    · next hx =>
      obtain ⟨h1, h2⟩ := hx
      refine ⟨x.2.2, h2.symm, ?_⟩
      simp at h
      rw [← h1, ← h]
      exact List.mem_cons_self
    · obtain ⟨tn, h1, h2⟩ := ih h
      exact ⟨tn, h1, List.mem_cons_of_mem _ h2⟩
theorem trF_none {l : List (Nat × Nat × Nat)} {r : Nat} {t : Int} (h : trF l r t = none) : ∀ c (tn : Nat), t = tn → (r, c, tn) ∉ l := by
  induction l with
  | nil => simp
  | cons x l ih =>
    simp only [trF] at h
    split at h
    · simp at h
    · next hx =>
      intro c tn e hm
      rcases List.mem_cons.1 hm with hm | hm
      · rw [← hm] at hx
        exact hx ⟨rfl, e.symm⟩
      · exact ih h c tn e hm
theorem spF_filter (l : List (Nat × Nat × Nat × Nat)) (r : Nat) (t : Int) : (match spF l r t with | some c => (c : Int) | none => -1) = spAt ((l.filter (fun x => decide (x.1 = r))).map (fun x => x.2)) t := by
  induction l with
  | nil => rfl
  | cons x l ih =>
    simp only [spF]
    by_cases h1 : x.1 = r
    · rw [List.filter_cons_of_pos (by simpa using h1), List.map_cons]
      simp only [spAt]
      by_cases h2 : (x.2.2.1 : Int) ≤ t ∧ t < x.2.2.2
      · rw [if_pos ⟨h1, h2⟩, if_pos h2]
      · rw [if_neg (fun h => h2 h.2), if_neg h2]; exact ih
    · rw [List.filter_cons_of_neg (by simpa using h1), if_neg (fun h => h1 h.1)]; exact ih

theorem RT.at' (h : RT T S) (hb : ∀ r s, r < T.nr → s < 256 → -1 ≤ T.pl r s) {r : Nat} (hr : r < T.nr) (t : Int) : S.at r t = T.at r t := by
  unfold MdS.at TabS.at
  cases hf : trF S.tr r t with
  | some c =>
    obtain ⟨tn, rfl, hm⟩ := trF_some hf
    obtain ⟨-, h1, h2, h3⟩ := (h.tm r c tn).1 hm
    simp only
    rw [Int.toNat_natCast, if_pos ⟨TabS.win_of ⟨h1, h2⟩, by rw [h3]; omega⟩, h3]
  | none =>
    simp only
    refine Eq.trans (spF_filter S.sp r t) ?_
    rw [h.sp r hr, if_neg]
    rintro ⟨hw, hp⟩
    unfold TabS.win at hw
    simp at hw
    obtain ⟨tn, rfl⟩ := Int.eq_ofNat_of_zero_le (show 0 ≤ t by omega)
    rw [Int.toNat_natCast] at hp
    have hbd := hb r (tn % 256) hr (Nat.mod_lt _ (by omega))
    obtain ⟨c, hc⟩ := Int.eq_ofNat_of_zero_le (show 0 ≤ T.pl r (tn % 256) by omega)
    exact trF_none hf c tn rfl ((h.tm r c tn).2 ⟨hr, by omega, by omega, hc⟩)
theorem RT.at (h : RT T S) (hb : TBd T) {r : Nat} (hr : r < T.nr) (t : Int) : S.at r t = T.at r t := h.at' (fun r s h1 h2 => (hb.pl r s h1 h2).1) hr t
theorem MdS.holdN_spec (S : MdS) (c t : Int) : ∀ n k, (S.holdN c t k n = -1 ∧ ∀ j, k ≤ j → j < k + n → S.at j t ≠ c) ∨ ∃ j : Nat, k ≤ j ∧ j < k + n ∧ S.holdN c t k n = (j : Int) ∧ S.at j t = c := by
  intro n
  induction n with
  | zero => intro k; left; exact ⟨rfl, fun j h1 h2 => by omega⟩
  | succ n ih =>
    intro k
    simp only [MdS.holdN]
    by_cases hk : S.at k t = c
    · right; exact ⟨k, by omega, by omega, if_pos hk, hk⟩
    · rw [if_neg hk]
      rcases ih (k + 1) with ⟨h1, h2⟩ | ⟨j, h1, h2, h3, h4⟩
      · left
        refine ⟨h1, fun j hj1 hj2 => ?_⟩
        by_cases e : j = k
        · subst e; exact hk
        · exact h2 j (by omega) (by omega)
      · right; exact ⟨j, by omega, by omega, h3, h4⟩
theorem RT.hold (h : RT T S) (g : Fit T) {c t : Nat} (hc : c < T.nc) (ht : T.base ≤ t) : S.hold c t = T.hold c t := by
  unfold MdS.hold
  rw [h.nr]
  rcases S.holdN_spec c t T.nr 0 with ⟨h1, h2⟩ | ⟨j, h1, h2, h3, h4⟩
  · rw [h1]
    symm
    rw [g.hold_no hc ht]
    intro q hq e
    exact h2 q (by omega) (by omega) (by rw [h.at g.bd hq]; exact e)
  · rw [h3]
    symm
    rw [g.hold_iff hc ht]
    exact ⟨by omega, by rw [← h.at g.bd (by omega)]; exact h4⟩
end
end Go.Proofs.Qxb6500717aGreat
