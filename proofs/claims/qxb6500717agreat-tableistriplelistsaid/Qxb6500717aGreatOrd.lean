/-
  Spans in order: plain.
-/
import Derived.Test.Qxb6500717aGreatAdv
import Derived.Test.Qxb6500717aGreatQuery2
namespace Go.Proofs.Qxb6500717aGreat
open Go.RowKit
set_option linter.unusedSimpArgs false
set_option linter.unusedVariables false

/-- Spans that begin at b or later, are not empty, and follow each other. -/
def SOrd (b : Nat) (l : List (Nat × Nat × Nat)) : Prop := (∀ x, x ∈ l → b ≤ x.2.1 ∧ x.2.1 < x.2.2) ∧ l.Pairwise (fun x y => x.2.2 ≤ y.2.1)
def Ord (T : TabS) : Prop := ∀ r, r < T.nr → SOrd T.base (T.sp r)

theorem SOrd.nil (b : Nat) : SOrd b [] := ⟨fun x h => (List.not_mem_nil h).elim, List.Pairwise.nil⟩
theorem SOrd.take {b : Nat} {l : List (Nat × Nat × Nat)} (h : SOrd b l) (j : Nat) : SOrd b (l.take j) :=
  ⟨fun x hx => h.1 x (List.mem_of_mem_take hx), h.2.sublist (List.take_sublist j l)⟩
theorem SOrd.app {b t c : Nat} {l : List (Nat × Nat × Nat)} (h : SOrd b l) (hl : lastBusy l t = false) (hb : b ≤ t) (ht : t < 1099511627776) : SOrd b (l ++ [(c, t, 1099511627776)]) := by
  have hall : ∀ x, x ∈ l → x.2.2 ≤ t := by
    intro x hx
    rcases List.eq_nil_or_concat l with rfl | ⟨l', y, rfl⟩
    · cases hx
    · unfold lastBusy at hl
      rw [List.concat_eq_append] at *
      rw [List.getLast?_concat] at hl
      simp only [decide_eq_false_iff_not, Nat.not_lt] at hl
      rcases List.mem_append.1 hx with hx | hx
      · have h1 := (List.pairwise_append.1 h.2).2.2 x hx y (by simp)
        have h2 := (h.1 y (by simp)).2
        omega
      · simp at hx; subst hx; exact hl
  refine ⟨fun x hx => ?_, List.pairwise_append.2 ⟨h.2, by simp, fun x hx y hy => ?_⟩⟩
  · rcases List.mem_append.1 hx with hx | hx
    · exact h.1 x hx
    · simp at hx; subst hx; exact ⟨hb, ht⟩
  · simp at hy; subst hy; exact hall x hx
theorem popN_last (l : List (Nat × Nat × Nat)) (t : Nat) : ∀ j, j ≤ l.length → ∀ k x, popN l t j = k + 1 → l[k]? = some x → x.2.1 < t := by
  intro j
  induction j with
  | zero => intro _ k x h; simp [popN] at h
  | succ j ih =>
    intro hj k x h hx
    unfold popN at h
    rw [List.getElem?_eq_getElem (by omega)] at h
    simp only at h
    split at h
    · exact ih (by omega) k x h hx
    · obtain rfl : j = k := by omega
      rw [List.getElem?_eq_getElem (by omega)] at hx
      cases hx
      omega
theorem SOrd.cut {b t : Nat} {l : List (Nat × Nat × Nat)} (h : SOrd b l) (hl : ∀ k x, l.length = k + 1 → l[k]? = some x → x.2.1 < t) : SOrd b (cutL l t) := by
  rcases List.eq_nil_or_concat l with rfl | ⟨l', y, rfl⟩
  · exact h
  · rw [List.concat_eq_append] at *
    have e1 : (l' ++ [y])[(l' ++ [y]).length - 1]? = some y := by simp
    have hy := hl l'.length y (by simp) (by simp)
    unfold cutL
    rw [e1]
    simp only
    split
    · have e2 : (l' ++ [y]).set ((l' ++ [y]).length - 1) (y.1, y.2.1, t) = l' ++ [(y.1, y.2.1, t)] := by simp [List.set_append]
      rw [e2]
      refine ⟨fun x hx => ?_, List.pairwise_append.2 ⟨(List.pairwise_append.1 h.2).1, by simp, fun x hx z hz => ?_⟩⟩
      · rcases List.mem_append.1 hx with hx | hx
        · exact h.1 x (by simp [hx])
        · simp at hx; subst hx; exact ⟨(h.1 y (by simp)).1, hy⟩
      · simp at hz; subst hz; exact (List.pairwise_append.1 h.2).2.2 x hx y (by simp)
    · exact h
theorem SOrd.trunc {b t : Nat} {l : List (Nat × Nat × Nat)} (h : SOrd b l) : SOrd b (cutL (l.take (popN l t l.length)) t) := by
  refine (h.take _).cut (fun k x hk hx => ?_)
  have hp := popN_le l t l.length
  rw [List.length_take, Nat.min_eq_left hp] at hk
  rw [List.getElem?_take] at hx
  split at hx
  · exact popN_last l t l.length (Nat.le_refl _) k x hk hx
  · cases hx
theorem SOrd.keep {b to : Nat} {l : List (Nat × Nat × Nat)} (h : SOrd b l) : SOrd to (keepSp to l) := by
  refine ⟨fun y hy => ?_, ?_⟩
  · obtain ⟨x, hx, hlt, rfl⟩ := keepSp_mem hy
    have := h.1 x hx
    exact ⟨Nat.le_max_right _ _, by simp only; omega⟩
  · unfold keepSp
    refine List.Pairwise.filterMap _ ?_ h.2
    intro x y hxy x' hx' y' hy'
    split at hx' <;> split at hy' <;> simp at hx' hy'
    subst hx'; subst hy'
    simp only
    omega

/-! through the operations -/
theorem TabS.dropN_fix (r : Nat) : ∀ n t T, (TabS.dropN r t n T).2.sp = T.sp ∧ (TabS.dropN r t n T).2.base = T.base ∧ (TabS.dropN r t n T).2.nr = T.nr ∧ (TabS.dropN r t n T).2.nc = T.nc ∧ (TabS.dropN r t n T).2.cap = T.cap := by
  intro n
  induction n with
  | zero => intro t T; exact ⟨rfl, rfl, rfl, rfl, rfl⟩
  | succ n ih =>
    intro t T
    have := ih (t + 1) (T.drop r (t % 256)).2
    simp only [TabS.dropN]
    rw [this.1, this.2.1, this.2.2.1, this.2.2.2.1, this.2.2.2.2]
    exact ⟨TabS.drop_sp _ _ _, TabS.drop_base _ _ _, TabS.drop_nr _ _ _, TabS.drop_nc _ _ _, TabS.drop_cap _ _ _⟩
theorem TabS.dropR_fix (t : Nat) : ∀ n r T, (TabS.dropR t r n T).sp = T.sp ∧ (TabS.dropR t r n T).base = T.base ∧ (TabS.dropR t r n T).nr = T.nr := by
  intro n
  induction n with
  | zero => intro r T; exact ⟨rfl, rfl, rfl⟩
  | succ n ih =>
    intro r T
    have := ih (r + 1) (T.drop r (t % 256)).2
    simp only [TabS.dropR]
    rw [this.1, this.2.1, this.2.2]
    exact ⟨TabS.drop_sp _ _ _, TabS.drop_base _ _ _, TabS.drop_nr _ _ _⟩
theorem TabS.dropA_fix : ∀ n t T, (TabS.dropA t n T).sp = T.sp ∧ (TabS.dropA t n T).base = T.base ∧ (TabS.dropA t n T).nr = T.nr := by
  intro n
  induction n with
  | zero => intro t T; exact ⟨rfl, rfl, rfl⟩
  | succ n ih =>
    intro t T
    have := ih (t + 1) (TabS.dropR t 0 T.nr T)
    have h2 := TabS.dropR_fix t T.nr 0 T
    simp only [TabS.dropA]
    rw [this.1, this.2.1, this.2.2]
    exact h2
theorem TabS.keepN_fix (to : Nat) : ∀ n k T, (TabS.keepN to k n T).base = T.base ∧ (TabS.keepN to k n T).nr = T.nr ∧ (TabS.keepN to k n T).pl = T.pl ∧ (TabS.keepN to k n T).gr = T.gr ∧ (∀ j, k ≤ j ∧ j < k + n → (TabS.keepN to k n T).sp j = keepSp to (T.sp j)) ∧ (∀ j, ¬ (k ≤ j ∧ j < k + n) → (TabS.keepN to k n T).sp j = T.sp j) := by
  intro n
  induction n with
  | zero => intro k T; exact ⟨rfl, rfl, rfl, rfl, fun j hj => by omega, fun j hj => rfl⟩
  | succ n ih =>
    intro k T
    obtain ⟨h1, h2, h3, h4, h5, h6⟩ := ih (k + 1) (T.keep1 to k)
    simp only [TabS.keepN]
    refine ⟨h1, h2, h3, h4, fun j hj => ?_, fun j hj => ?_⟩
    · by_cases hjk : j = k
      · subst hjk
        rw [h6 j (by omega)]
        simp [TabS.keep1, upd_at]
      · rw [h5 j (by omega)]
        simp [TabS.keep1, upd_ne _ _ hjk]
    · rw [h6 j (by omega)]
      simp [TabS.keep1, upd_ne _ _ (show j ≠ k by omega)]
theorem TabS.undo_fix (T : TabS) (r start : Nat) : ∀ k, (T.undo r start k).sp = T.sp ∧ (T.undo r start k).base = T.base ∧ (T.undo r start k).nr = T.nr := by
  intro k
  induction k with
  | zero => exact ⟨rfl, rfl, rfl⟩
  | succ k ih =>
    simp only [TabS.undo]
    rw [TabS.drop_sp, TabS.drop_base, TabS.drop_nr]
    exact ih
theorem TabS.reserve_fix (T : TabS) (r c t : Int) : (T.reserve r c t).2.sp = T.sp ∧ (T.reserve r c t).2.base = T.base ∧ (T.reserve r c t).2.nr = T.nr := by
  by_cases h : (T.reserve r c t).1 = 0
  · obtain ⟨rn, cn, tn, -, -, -, -, -, -, -, -, -, -, e⟩ := TabS.reserve_yes h
    rw [e]; exact ⟨rfl, rfl, rfl⟩
  · rw [TabS.reserve_no h]; exact ⟨rfl, rfl, rfl⟩
theorem TabS.path_fix (r start : Int) : ∀ cs i T, (TabS.path r start cs i T).2.2.sp = T.sp ∧ (TabS.path r start cs i T).2.2.base = T.base ∧ (TabS.path r start cs i T).2.2.nr = T.nr := by
  intro cs
  induction cs with
  | nil => intro i T; exact ⟨rfl, rfl, rfl⟩
  | cons c cs ih =>
    intro i T
    have h1 := ih (i + 1) (T.reserve r c (start + i)).2
    have h2 := TabS.reserve_fix T r c (start + i)
    unfold TabS.path
    split
    · rw [h1.1, h1.2.1, h1.2.2]; exact h2
    · exact TabS.undo_fix T _ _ _

section
variable {T T' : TabS}
theorem Ord.of (h : Ord T) (e : T'.sp = T.sp ∧ T'.base = T.base ∧ T'.nr = T.nr) : Ord T' := by
  intro r hr
  rw [e.2.2] at hr
  rw [e.1, e.2.1]
  exact h r hr
theorem Ord.reserve (h : Ord T) (r c t : Int) : Ord (T.reserve r c t).2 := h.of (TabS.reserve_fix T r c t)
theorem Ord.path (h : Ord T) (r start : Int) (cs : List Int) : Ord (TabS.path r start cs 0 T).2.2 := h.of (TabS.path_fix r start cs 0 T)
theorem TabS.stand_yes {r c t : Int} (h : (T.stand r c t).1 = 0) : ∃ rn cn tn : Nat, r = rn ∧ c = cn ∧ t = tn ∧ rn < T.nr ∧ cn < T.nc ∧ (T.base ≤ tn ∧ tn < T.base + 256) ∧ T.busy rn tn = false ∧ T.free rn cn tn = true ∧ (decide (T.at rn ((tn : Int) - 1) ≠ -1) && T.swaps (rn : Int) (T.at rn ((tn : Int) - 1)).toNat cn ((tn : Int) - 1)) = false ∧ T.held < T.cap ∧ (T.stand r c t).2 = T.sit rn cn tn := by
  unfold TabS.stand at h ⊢
  by_cases h1 : T.place r c t ≠ 0
  · rw [if_pos h1] at h; exact absurd h h1
  rw [if_neg h1] at h ⊢
  obtain ⟨hr, hc, ht⟩ := TabS.place_zero (Decidable.not_not.1 h1)
  by_cases h2 : T.busy r.toNat t.toNat = true
  · rw [if_pos h2] at h; cases h
  rw [if_neg h2] at h ⊢
  by_cases h3 : T.free r.toNat c.toNat t.toNat = false
  · rw [if_pos h3] at h; cases h
  rw [if_neg h3] at h ⊢
  by_cases h4 : (decide (T.at r.toNat (t - 1) ≠ -1) && T.swaps r (T.at r.toNat (t - 1)).toNat c.toNat (t - 1)) = true
  · rw [if_pos h4] at h; cases h
  rw [if_neg h4] at h ⊢
  by_cases h5 : T.cap ≤ T.held
  · rw [if_pos h5] at h; cases h
  rw [if_neg h5]
  obtain ⟨rn, rfl⟩ := Int.eq_ofNat_of_zero_le hr.1
  obtain ⟨cn, rfl⟩ := Int.eq_ofNat_of_zero_le hc.1
  obtain ⟨tn, rfl⟩ := Int.eq_ofNat_of_zero_le (show 0 ≤ t by omega)
  simp only [Int.toNat_natCast] at *
  refine ⟨rn, cn, tn, rfl, rfl, rfl, by omega, by omega, by omega, by simpa using h2, by simpa using h3, by simpa using h4, by omega, rfl⟩
theorem TabS.stand_no {r c t : Int} (h : (T.stand r c t).1 ≠ 0) : (T.stand r c t).2 = T := by
  unfold TabS.stand at h ⊢
  by_cases h1 : T.place r c t ≠ 0
  · rw [if_pos h1]
  rw [if_neg h1] at h ⊢
  by_cases h2 : T.busy r.toNat t.toNat = true
  · rw [if_pos h2]
  rw [if_neg h2] at h ⊢
  by_cases h3 : T.free r.toNat c.toNat t.toNat = false
  · rw [if_pos h3]
  rw [if_neg h3] at h ⊢
  by_cases h4 : (decide (T.at r.toNat (t - 1) ≠ -1) && T.swaps r (T.at r.toNat (t - 1)).toNat c.toNat (t - 1)) = true
  · rw [if_pos h4]
  rw [if_neg h4] at h ⊢
  by_cases h5 : T.cap ≤ T.held
  · rw [if_pos h5]
  rw [if_neg h5] at h
  exact absurd rfl h
theorem Ord.stand (h : Ord T) (hb : TBd T) (r c t : Int) : Ord (T.stand r c t).2 := by
  by_cases h0 : (T.stand r c t).1 = 0
  · obtain ⟨rn, cn, tn, -, -, -, hr, hc, hw, hbz, -, -, -, e⟩ := TabS.stand_yes h0
    rw [e]
    intro q hq
    show SOrd T.base (upd T.sp rn (T.sp rn ++ [(cn, tn, 1099511627776)]) q)
    unfold upd
    split
    · refine (h rn hr).app ?_ hw.1 (by have := hb.base; omega)
      unfold TabS.busy at hbz
      simp only [Bool.or_eq_false_iff] at hbz
      exact hbz.2
    · exact h q hq
  · rw [TabS.stand_no h0]; exact h
theorem Ord.trunc (h : Ord T) (r t : Nat) : Ord (T.trunc r t).2 := by
  have hf := TabS.dropN_fix r (T.base + 256 - t) t T
  intro q hq
  have hq' : q < T.nr := by
    have : (T.trunc r t).2.nr = T.nr := hf.2.2.1
    omega
  have e1 : (T.trunc r t).2.base = T.base := hf.2.1
  have e2 : (T.trunc r t).2.sp = upd T.sp r (cutL ((T.sp r).take (popN (T.sp r) t (T.sp r).length)) t) := by
    simp only [TabS.trunc]
    rw [hf.1]
  rw [e1, e2]
  unfold upd
  split
  · rename_i e; subst e
    exact (h q hq').trunc
  · exact h q hq'
theorem Ord.adv (h : Ord T) (to : Nat) : Ord (T.adv to) := by
  obtain ⟨h1, h2, h3, h4, h5, h6⟩ := TabS.keepN_fix to T.nr 0 { (TabS.dropA T.base (min to (T.base + 256) - T.base) T) with base := to }
  have hf := TabS.dropA_fix (min to (T.base + 256) - T.base) T.base T
  intro q hq
  unfold TabS.adv at hq ⊢
  rw [h2] at hq
  have hq' : q < T.nr := by rw [← hf.2.2]; exact hq
  rw [h1, h5 q (by omega)]
  show SOrd to (keepSp to ((TabS.dropA T.base (min to (T.base + 256) - T.base) T).sp q))
  rw [hf.1]
  exact (h q hq').keep
theorem Ord.advT (h : Ord T) (to : Int) : Ord (T.advT to) := by
  unfold TabS.advT
  split
  · exact h
  · split
    · exact h
    · exact h.adv _
end

/-! a refused path leaves the table as it was -/
theorem TabS.eta {T T' : TabS} (h1 : T.nc = T'.nc) (h2 : T.nr = T'.nr) (h3 : T.cap = T'.cap) (h4 : T.base = T'.base) (h5 : T.held = T'.held) (h6 : T.gr = T'.gr) (h7 : T.pl = T'.pl) (h8 : T.sp = T'.sp) : T = T' := by
  cases T; cases T'; simp only at *; subst h1; subst h2; subst h3; subst h4; subst h5; subst h6; subst h7; subst h8; rfl
section
variable {T : TabS}
theorem TBd.drop (h : TBd T) (r s : Nat) : TBd (T.drop r s).2 := by
  unfold TabS.drop
  split
  · exact h
  · refine { h with held := ?_, gr := ?_, pl := ?_ }
    · have := h.held
      show T.held - 1 ≤ T.cap
      omega
    · intro i hi
      show 0 ≤ upd T.gr _ 0 i ∧ upd T.gr _ 0 i ≤ _
      unfold upd
      split
      · exact ⟨by omega, by show (0 : Int) ≤ T.nr; omega⟩
      · exact h.gr i hi
    · intro q u hq hu
      show -1 ≤ upd2 T.pl _ _ _ q u ∧ upd2 T.pl _ _ _ q u < _
      unfold upd2
      split
      · exact ⟨by omega, by show (-1 : Int) < T.nc; omega⟩
      · exact h.pl q u hq hu
end
end Go.Proofs.Qxb6500717aGreat
