/-
  The table against the model's lists: Advance, the questions, a new table.
-/
import Derived.Test.Qxb6500717aGreatBi5
import Derived.Test.Qxb6500717aGreatSt4
import Derived.Test.Qxb6500717aGreatSt5
import Derived.Test.Qxb6500717aGreatSt8
import Derived.Test.Qxb6500717aGreatDoX3
namespace Go.Proofs.Qxb6500717aGreat
open Go.RowKit
set_option linter.unusedSimpArgs false
set_option linter.unusedVariables false

theorem trAdv_filter (t : Nat) (l : List (Nat × Nat × Nat)) : trAdv t l = l.filter (fun x => decide (t ≤ x.2.2)) := by
  induction l with
  | nil => rfl
  | cons x l ih =>
    simp only [trAdv]
    by_cases h : t ≤ x.2.2
    · rw [if_pos h, List.filter_cons_of_pos (by simpa using h), ih]
    · rw [if_neg h, List.filter_cons_of_neg (by simpa using h), ih]
theorem spAdv1_eq (t : Nat) (x : Nat × Nat × Nat × Nat) : spAdv1 t x = (x.1, x.2.1, max x.2.2.1 t, x.2.2.2) := by
  unfold spAdv1
  split
  · rw [Nat.max_eq_right (by omega)]
  · rw [Nat.max_eq_left (by omega)]
theorem spAdv_same (q t : Nat) (l : List (Nat × Nat × Nat × Nat)) (hl : ∀ x, x ∈ l → x.2.2.1 < x.2.2.2) : ((spAdv t l).filter (fun x => decide (x.1 = q))).map (fun x => x.2) = keepSp t ((l.filter (fun x => decide (x.1 = q))).map (fun x => x.2)) := by
  induction l with
  | nil => rfl
  | cons x l ih =>
    have ih := ih (fun y hy => hl y (List.mem_cons_of_mem _ hy))
    have hx := hl x List.mem_cons_self
    simp only [spAdv, spAdv1_eq]
    by_cases hr : x.1 = q
    · rw [List.filter_cons_of_pos (p := fun (x : Nat × Nat × Nat × Nat) => decide (x.1 = q)) (a := x) (by simpa using hr), List.map_cons]
      unfold keepSp at ih ⊢
      by_cases ht : x.2.2.2 ≤ t
      · rw [if_neg (by omega), List.filterMap_cons_none (by simp [ht])]
        exact ih
      · rw [if_pos (by omega), List.filter_cons_of_pos (by simpa using hr), List.map_cons, List.filterMap_cons_some (b := (x.2.1, max x.2.2.1 t, x.2.2.2)) (by simp [ht]), ih]
    · rw [List.filter_cons_of_neg (p := fun (x : Nat × Nat × Nat × Nat) => decide (x.1 = q)) (a := x) (by simpa using hr)]
      split
      · rw [List.filter_cons_of_neg (by simpa using hr), ih]
      · exact ih
section
variable {T : TabS} {S : MdS}
theorem dropR_keep (t : Nat) : ∀ n k T q s, s ≠ t % 256 → (TabS.dropR t k n T).pl q s = T.pl q s := by
  intro n
  induction n with
  | zero => intro k T q s _; rfl
  | succ n ih =>
    intro k T q s h
    simp only [TabS.dropR]
    rw [ih (k + 1) _ q s h, TabS.drop_pl, if_neg (fun hh => h hh.2)]
theorem dropA_keep : ∀ n t T q s, (∀ u, t ≤ u → u < t + n → u % 256 ≠ s) → (TabS.dropA t n T).pl q s = T.pl q s := by
  intro n
  induction n with
  | zero => intro t T q s _; rfl
  | succ n ih =>
    intro t T q s h
    simp only [TabS.dropA]
    rw [ih (t + 1) _ q s (fun u h1 h2 => h u (by omega) (by omega)), dropR_keep _ _ _ _ _ _ (fun e => h t (Nat.le_refl _) (by omega) e.symm)]
theorem dropR_nc (t : Nat) : ∀ n k T, (TabS.dropR t k n T).nc = T.nc ∧ (TabS.dropR t k n T).cap = T.cap := by
  intro n
  induction n with
  | zero => intro k T; exact ⟨rfl, rfl⟩
  | succ n ih =>
    intro k T
    simp only [TabS.dropR]
    obtain ⟨h1, h2⟩ := ih (k + 1) (T.drop k (t % 256)).2
    exact ⟨h1.trans (TabS.drop_nc _ _ _), h2.trans (TabS.drop_cap _ _ _)⟩
theorem dropA_nc : ∀ n t T, (TabS.dropA t n T).nc = T.nc ∧ (TabS.dropA t n T).cap = T.cap := by
  intro n
  induction n with
  | zero => intro t T; exact ⟨rfl, rfl⟩
  | succ n ih =>
    intro t T
    simp only [TabS.dropA]
    obtain ⟨h1, h2⟩ := ih (t + 1) (TabS.dropR t 0 T.nr T)
    obtain ⟨h3, h4⟩ := dropR_nc t T.nr 0 T
    exact ⟨h1.trans h3, h2.trans h4⟩
theorem keepN_nc (to : Nat) : ∀ n k T, (TabS.keepN to k n T).nc = T.nc ∧ (TabS.keepN to k n T).cap = T.cap := by
  intro n
  induction n with
  | zero => intro k T; exact ⟨rfl, rfl⟩
  | succ n ih => intro k T; exact ih (k + 1) (T.keep1 to k)
theorem RT.adv (h : RT T S) (g : Fit T) {to : Nat} (hto : T.base ≤ to) : RT (T.adv to) (S.adv to) := by
  obtain ⟨k1, k2, k3, k4, k5, k6⟩ := TabS.keepN_fix to T.nr 0 { (TabS.dropA T.base (min to (T.base + 256) - T.base) T) with base := to }
  have hf := TabS.dropA_fix (min to (T.base + 256) - T.base) T.base T
  have e1 : (T.adv to).base = to := k1
  have e2 : (T.adv to).nr = T.nr := by
    have : (T.adv to).nr = (TabS.dropA T.base (min to (T.base + 256) - T.base) T).nr := k2
    rw [this, hf.2.2]
  have e3 : (T.adv to).pl = (TabS.dropA T.base (min to (T.base + 256) - T.base) T).pl := k3
  have e4 : ∀ q, q < T.nr → (T.adv to).sp q = keepSp to (T.sp q) := fun q hq => by
    have : (T.adv to).sp q = keepSp to ((TabS.dropA T.base (min to (T.base + 256) - T.base) T).sp q) := k5 q (by omega)
    rw [this, hf.1]
  have e5 : (T.adv to).nc = T.nc := (keepN_nc to T.nr 0 _).1.trans (dropA_nc _ _ T).1
  have e6 : (T.adv to).cap = T.cap := (keepN_nc to T.nr 0 _).2.trans (dropA_nc _ _ T).2
  refine ⟨by rw [e5]; exact h.nc, by rw [e2]; exact h.nr, by rw [e6]; exact h.cap, by rw [e1]; rfl, fun q d u => ?_, ?_, fun q hq => ?_, fun x hx => ?_⟩
  · show (q, d, u) ∈ trAdv to S.tr ↔ _
    rw [trAdv_filter, List.mem_filter, h.tm, e1, e2, e3]
    simp only [decide_eq_true_eq]
    constructor
    · rintro ⟨⟨h1, h2, h3, h4⟩, h5⟩
      refine ⟨h1, h5, by omega, ?_⟩
      rw [dropA_keep _ _ _ _ _ (fun v v1 v2 => by omega)]
      exact h4
    · rintro ⟨h1, h2, h3, h4⟩
      obtain ⟨d1, d2⟩ := TabS.dropA_pl (min to (T.base + 256) - T.base) T.base T q (u % 256)
      obtain ⟨v, hv1, hv2, hv3⟩ : ∃ v, T.base ≤ v ∧ v < T.base + 256 ∧ v % 256 = u % 256 := by
        refine ⟨T.base + (u + 256 - T.base % 256) % 256, by omega, by omega, by omega⟩
      have hv4 : to ≤ v := by
        rcases Nat.lt_or_ge v to with hx | hx
        · have := d2 h1 v hv1 (by omega) hv3.symm
          rw [this] at h4
          omega
        · exact hx
      obtain rfl : u = v := by omega
      rw [dropA_keep _ _ _ _ _ (fun v v1 v2 => by omega)] at h4
      exact ⟨⟨h1, hv1, hv2, h4⟩, h2⟩
  · show (trAdv to S.tr).Nodup
    rw [trAdv_filter]
    exact h.nd.filter _
  · rw [e2] at hq
    show ((spAdv to S.sp).filter (fun (x : Nat × Nat × Nat × Nat) => decide (x.1 = q))).map (fun (x : Nat × Nat × Nat × Nat) => x.2) = _
    rw [e4 q hq, spAdv_same q to S.sp (fun x hx => (h.spb g.ord x hx).2), h.sp q hq]
  · rw [e2]
    have : ∀ l : List (Nat × Nat × Nat × Nat), x ∈ spAdv to l → ∃ y, y ∈ l ∧ x.1 = y.1 := by
      intro l
      induction l with
      | nil => intro hh; cases hh
      | cons z l ih =>
        intro hh
        simp only [spAdv] at hh
        have e : (spAdv1 to z).1 = z.1 := by unfold spAdv1; split <;> rfl
        split at hh
        · rcases List.mem_cons.1 hh with rfl | hh
          · exact ⟨z, List.mem_cons_self, e⟩
          · obtain ⟨y, h1, h2⟩ := ih hh; exact ⟨y, List.mem_cons_of_mem _ h1, h2⟩
        · obtain ⟨y, h1, h2⟩ := ih hh; exact ⟨y, List.mem_cons_of_mem _ h1, h2⟩
    obtain ⟨y, hy, e⟩ := this S.sp hx
    rw [e]
    exact h.sr y hy
theorem RT.advance (h : RT T S) (g : Fit T) (t : Int) : (S.advance t).1 = T.advC t ∧ RT (T.advT t) (S.advance t).2 := by
  unfold MdS.advance TabS.advC TabS.advT
  rw [h.base]
  by_cases h1 : t < (T.base : Int)
  · rw [if_pos h1, if_pos h1, if_pos h1]; exact ⟨rfl, h⟩
  rw [if_neg h1, if_neg h1, if_neg h1]
  by_cases h2 : 1073741824 < t
  · rw [if_pos h2, if_pos h2, if_pos h2]; exact ⟨rfl, h⟩
  rw [if_neg h2, if_neg h2, if_neg h2]
  exact ⟨rfl, h.adv g (by omega)⟩
theorem RT.qTrunc (h : RT T S) (g : Fit T) (r t : Int) : (S.qTrunc r t).1 = ((T.cutA r t).1, cutV (T.cutA r t)) ∧ RT (T.cutA r t).2.2 (S.qTrunc r t).2 := by
  unfold MdS.qTrunc TabS.cutA MdS.isR
  rw [h.nr]
  by_cases hr : 0 ≤ r ∧ r < T.nr
  · have e : (decide (0 ≤ r) && decide (r < (T.nr : Int))) = true := by simp; omega
    rw [if_pos e, if_pos hr, h.base]
    obtain ⟨r, rfl⟩ := Int.eq_ofNat_of_zero_le hr.1
    simp only [Int.toNat_natCast]
    refine ⟨?_, h.cut g (by omega) (by omega)⟩
    rw [h.trunc g (by omega) (by omega)]
    rfl
  · have e : ¬ ((decide (0 ≤ r) && decide (r < (T.nr : Int))) = true) := by simp; omega
    rw [if_neg e, if_neg hr]
    exact ⟨rfl, h⟩
theorem isX (a b x : Int) : (decide (a ≤ x) && decide (x < b)) = true ↔ a ≤ x ∧ x < b := by simp
theorem RT.qAt (h : RT T S) (g : Fit T) (r t : Int) : S.qAt r t = T.atQ r t := by
  unfold MdS.qAt TabS.atQ MdS.isR MdS.isA
  simp only [isX]
  rw [h.nr, h.base]
  by_cases hx : (0 ≤ r ∧ r < T.nr) ∧ ((T.base : Int) ≤ t ∧ t < 1099511627776)
  · rw [if_pos hx, if_pos hx, h.at g.bd (by omega)]
  · rw [if_neg hx, if_neg hx]
theorem RT.qHold (h : RT T S) (g : Fit T) (c t : Int) : S.qHold c t = T.holdQ c t := by
  unfold MdS.qHold TabS.holdQ MdS.isC MdS.isA
  simp only [isX]
  rw [h.nc, h.base]
  by_cases hx : (0 ≤ c ∧ c < T.nc) ∧ ((T.base : Int) ≤ t ∧ t < 1099511627776)
  · rw [if_pos hx, if_pos hx]
    obtain ⟨c, rfl⟩ := Int.eq_ofNat_of_zero_le hx.1.1
    obtain ⟨t, rfl⟩ := Int.eq_ofNat_of_zero_le (show 0 ≤ t by omega)
    rw [h.hold g (by omega) (by omega)]
    rfl
  · rw [if_neg hx, if_neg hx]
theorem RT.freeC (h : RT T S) (g : Fit T) (r c t : Int) : S.freeC r c t = T.freeC r c t := by
  unfold MdS.freeC TabS.freeC
  simp only [isX]
  rw [h.nr, h.nc, h.base]
  by_cases hx : (0 ≤ r ∧ r < T.nr) ∧ (0 ≤ c ∧ c < T.nc) ∧ ((T.base : Int) ≤ t ∧ t < 1099511627776)
  · rw [if_pos hx, if_pos hx]
    obtain ⟨c, rfl⟩ := Int.eq_ofNat_of_zero_le hx.2.1.1
    obtain ⟨t, rfl⟩ := Int.eq_ofNat_of_zero_le (show 0 ≤ t by omega)
    rw [h.hold g (by omega) (by omega), Int.toNat_natCast, Bool.eq_iff_iff]
    simp
  · rw [if_neg hx, if_neg hx]
theorem RT.qMove (h : RT T S) (g : Fit T) (r a b t : Int) : S.qMove r a b t = T.freeM r a b t := by
  unfold MdS.qMove TabS.freeM MdS.isC MdS.isA
  simp only [isX]
  rw [h.nc, h.base, h.freeC g]
  by_cases hx : (0 ≤ a ∧ a < T.nc) ∧ ((T.base : Int) ≤ t ∧ t < 1099511627776) ∧ T.freeC r b (t + 1) = true
  · rw [if_pos hx, if_pos hx]
    obtain ⟨h1, h2, h3⟩ := hx
    have h4 : (0 ≤ r ∧ r < T.nr) ∧ (0 ≤ b ∧ b < T.nc) := by
      unfold TabS.freeC at h3
      split at h3
      · next hh => exact ⟨hh.1, hh.2.1⟩
      · simp at h3
    obtain ⟨a, rfl⟩ := Int.eq_ofNat_of_zero_le h1.1
    obtain ⟨b, rfl⟩ := Int.eq_ofNat_of_zero_le h4.2.1
    obtain ⟨r, rfl⟩ := Int.eq_ofNat_of_zero_le h4.1.1
    obtain ⟨t, rfl⟩ := Int.eq_ofNat_of_zero_le (show 0 ≤ t by omega)
    rw [h.hold g (by omega) (by omega)]
    simp only [Int.toNat_natCast]
    congr 1
    unfold TabS.swaps
    by_cases e : a = b
    · rw [if_pos e]; simp [e]
    rw [if_neg e, Bool.eq_iff_iff]
    simp only [Bool.and_eq_true, decide_eq_true_eq]
    have hn := TabS.hold_nn g.bd (t := t) (show b < T.nc by omega)
    constructor
    · rintro ⟨⟨⟨-, k1⟩, k2⟩, k3⟩
      refine ⟨k1, k2, ?_⟩
      obtain ⟨q, hq⟩ := Int.eq_ofNat_of_zero_le (show 0 ≤ T.hold b t by omega)
      obtain ⟨q1, q2⟩ := (g.hold_iff (by omega) (by omega) q).1 hq
      rw [hq] at k3 ⊢
      rw [Int.toNat_natCast, h.at g.bd q1] at k3
      rw [show (t : Int) + 1 = ((t + 1 : Nat) : Int) by omega] at k3 ⊢
      exact (g.hold_iff (by omega) (by omega) q).2 ⟨q1, k3⟩
    · rintro ⟨k1, k2, k3⟩
      refine ⟨⟨⟨by omega, k1⟩, k2⟩, ?_⟩
      obtain ⟨q, hq⟩ := Int.eq_ofNat_of_zero_le (show 0 ≤ T.hold b t by omega)
      rw [hq] at k3 ⊢
      rw [show (t : Int) + 1 = ((t + 1 : Nat) : Int) by omega] at k3 ⊢
      obtain ⟨q1, q2⟩ := (g.hold_iff (by omega) (by omega) q).1 k3
      rw [Int.toNat_natCast, h.at g.bd q1]
      exact q2
  · rw [if_neg hx, if_neg hx]
theorem RT.qFrom (h : RT T S) (g : Fit T) (r c t : Int) : S.qFrom r c t = T.freeF r c t := by
  unfold MdS.qFrom TabS.freeF MdS.isR MdS.isC MdS.isA
  rw [h.nr, h.nc, h.base]
  by_cases hx : (0 ≤ r ∧ r < T.nr) ∧ (0 ≤ c ∧ c < T.nc) ∧ ((T.base : Int) ≤ t ∧ t < 1099511627776)
  · rw [if_pos hx, (isX _ _ _).2 hx.1, (isX _ _ _).2 hx.2.1, (isX _ _ _).2 hx.2.2]
    obtain ⟨r, rfl⟩ := Int.eq_ofNat_of_zero_le hx.1.1
    obtain ⟨c, rfl⟩ := Int.eq_ofNat_of_zero_le hx.2.1.1
    obtain ⟨t, rfl⟩ := Int.eq_ofNat_of_zero_le (show 0 ≤ t by omega)
    rw [h.free g (by omega) (by omega)]
    rfl
  · rw [if_neg hx]
    by_cases h1 : 0 ≤ r ∧ r < T.nr
    · by_cases h2 : 0 ≤ c ∧ c < T.nc
      · have : (decide ((T.base : Int) ≤ t) && decide (t < 1099511627776)) = false := by
          rw [Bool.eq_false_iff]; intro hh; exact hx ⟨h1, h2, (isX _ _ _).1 hh⟩
        rw [this]; simp
      · have : (decide (0 ≤ c) && decide (c < (T.nc : Int))) = false := by
          rw [Bool.eq_false_iff]; intro hh; exact h2 ((isX _ _ _).1 hh)
        rw [this]; simp
    · have : (decide (0 ≤ r) && decide (r < (T.nr : Int))) = false := by
        rw [Bool.eq_false_iff]; intro hh; exact h1 ((isX _ _ _).1 hh)
      rw [this]; simp
theorem RT.removQ (h : RT T S) (g : Fit T) (r t : Int) : cntTr r t S.tr + cntSp r t S.sp = T.removQ r t := by
  unfold TabS.removQ
  by_cases hr : 0 ≤ r ∧ r < T.nr
  · rw [if_pos hr]
    obtain ⟨r, rfl⟩ := Int.eq_ofNat_of_zero_le hr.1
    rw [← cntTr_low (b := (T.base : Int)) (fun x hx => by have := h.tr_rb x hx; omega), ← cntSp_low (b := (T.base : Int)) (fun x hx => by have := h.spb g.ord x hx; omega)]
    obtain ⟨tn, htn⟩ := Int.eq_ofNat_of_zero_le (show 0 ≤ max t (T.base : Int) by omega)
    rw [htn, h.remov g.bd (by omega) (by omega)]
    simp
  · rw [if_neg hr, cntTr_zero (fun x hx => by have := h.tr_rb x hx; omega), cntSp_zero (fun x hx => by have := h.sr x hx; omega)]
theorem RT.new (nc nr cap : Nat) : RT (TabS.new nc nr cap) ⟨true, nc, nr, cap, 0, [], []⟩ := by
  refine ⟨rfl, rfl, rfl, rfl, fun r c t => ?_, List.nodup_nil, fun r hr => rfl, fun x hx => by cases hx⟩
  constructor
  · intro h; cases h
  · rintro ⟨-, -, -, h⟩
    have : (-1 : Int) = (c : Int) := h
    omega
end
end Go.Proofs.Qxb6500717aGreat
