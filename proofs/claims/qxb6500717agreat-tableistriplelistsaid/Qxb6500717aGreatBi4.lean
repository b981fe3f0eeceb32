/-
  The table against the model's lists: Path, Stand.
-/
import Derived.Test.Qxb6500717aGreatBi3
import Derived.Test.Qxb6500717aGreatUndo
import Derived.Test.Qxb6500717aGreatSt1
namespace Go.Proofs.Qxb6500717aGreat
open Go.RowKit
set_option linter.unusedSimpArgs false
set_option linter.unusedVariables false

section
variable {T : TabS} {S : MdS}
theorem RT.pathI (r start : Int) (bt : List (Nat × Nat × Nat)) (S0 : MdS) : ∀ (cs : List Int) (i : Nat) (T : TabS) (S : MdS), RT T S → Fit T → ({ S with tr := bt } : MdS) = S0 →
    (MdS.path r start bt cs i S).1 = (TabS.path r start cs i T).1 ∧ (MdS.path r start bt cs i S).2.1 = (TabS.path r start cs i T).2.1 ∧ ((TabS.path r start cs i T).1 = 0 → RT (TabS.path r start cs i T).2.2 (MdS.path r start bt cs i S).2.2) ∧ ((TabS.path r start cs i T).1 ≠ 0 → (MdS.path r start bt cs i S).2.2 = S0) := by
  intro cs
  induction cs with
  | nil => intro i T S h g e; exact ⟨rfl, rfl, fun _ => h, fun hn => absurd rfl hn⟩
  | cons c cs ih =>
    intro i T S h g e
    obtain ⟨h1, h2⟩ := h.reserve g r c (start + i)
    simp only [MdS.path, TabS.path]
    by_cases h0 : (T.reserve r c (start + i)).1 = 0
    · rw [if_pos h0, if_pos (h1.trans h0)]
      refine ih (i + 1) _ _ h2 (g.reserve _ _ _) ?_
      obtain ⟨rn, cn, tn, -, -, -, -, -, -, -, -, -, -, -, e2⟩ := MdS.reserve_yes (h1.trans h0)
      rw [e2]
      exact e
    · rw [if_neg h0, if_neg (fun hx => h0 (h1.symm.trans hx))]
      exact ⟨h1, rfl, fun hx => absurd hx h0, fun _ => e⟩
theorem RT.path (h : RT T S) (g : Fit T) (r start : Int) (cs : List Int) :
    (MdS.path r start S.tr cs 0 S).1 = (TabS.path r start cs 0 T).1 ∧ (MdS.path r start S.tr cs 0 S).2.1 = (TabS.path r start cs 0 T).2.1 ∧ RT (TabS.path r start cs 0 T).2.2 (MdS.path r start S.tr cs 0 S).2.2 := by
  obtain ⟨h1, h2, h3, h4⟩ := RT.pathI r start S.tr S cs 0 T S h g rfl
  refine ⟨h1, h2, ?_⟩
  by_cases h0 : (TabS.path r start cs 0 T).1 = 0
  · exact h3 h0
  · rw [h4 h0, TabS.path_back r start T cs 0 T g.bd g.con (Or.inl rfl) rfl h0]
    exact h
/-! later -/
theorem laterT_iff (l : List (Nat × Nat × Nat)) (r : Nat) (c t : Int) : laterT l r c t = true ↔ ∃ x, x ∈ l ∧ x.1 = r ∧ (c = -1 ∨ (x.2.1 : Int) = c) ∧ t ≤ (x.2.2 : Int) := by
  induction l with
  | nil => simp [laterT]
  | cons x l ih =>
    simp only [laterT]
    by_cases h : x.1 = r ∧ (c = -1 ∨ (x.2.1 : Int) = c) ∧ t ≤ (x.2.2 : Int)
    · rw [if_pos h]
      exact ⟨fun _ => ⟨x, List.mem_cons_self, h⟩, fun _ => rfl⟩
    · rw [if_neg h, ih]
      constructor
      · rintro ⟨y, h1, h2⟩; exact ⟨y, List.mem_cons_of_mem _ h1, h2⟩
      · rintro ⟨y, h1, h2⟩
        rcases List.mem_cons.1 h1 with rfl | h1
        · exact absurd h2 h
        · exact ⟨y, h1, h2⟩
theorem laterS_iff (l : List (Nat × Nat × Nat × Nat)) (r : Nat) (c t : Int) : laterS l r c t = true ↔ ∃ x, x ∈ l ∧ x.1 = r ∧ (c = -1 ∨ (x.2.1 : Int) = c) ∧ t < (x.2.2.2 : Int) := by
  induction l with
  | nil => simp [laterS]
  | cons x l ih =>
    simp only [laterS]
    by_cases h : x.1 = r ∧ (c = -1 ∨ (x.2.1 : Int) = c) ∧ t < (x.2.2.2 : Int)
    · rw [if_pos h]
      exact ⟨fun _ => ⟨x, List.mem_cons_self, h⟩, fun _ => rfl⟩
    · rw [if_neg h, ih]
      constructor
      · rintro ⟨y, h1, h2⟩; exact ⟨y, List.mem_cons_of_mem _ h1, h2⟩
      · rintro ⟨y, h1, h2⟩
        rcases List.mem_cons.1 h1 with rfl | h1
        · exact absurd h2 h
        · exact ⟨y, h1, h2⟩
theorem RT.mem_sp (h : RT T S) {r : Nat} (hr : r < T.nr) (y : Nat × Nat × Nat) : (r, y) ∈ S.sp ↔ y ∈ T.sp r := by
  rw [← h.sp r hr, List.mem_map]
  constructor
  · intro hm
    exact ⟨(r, y), List.mem_filter.2 ⟨hm, by simp⟩, rfl⟩
  · rintro ⟨x, h1, rfl⟩
    obtain ⟨h2, h3⟩ := List.mem_filter.1 h1
    simp at h3
    rw [← h3]
    exact h2
/-- A robot's later reservations. -/
theorem RT.later_iff (h : RT T S) (hb : TBd T) {r : Nat} (hr : r < T.nr) (c : Int) {t : Nat} (ht : T.base ≤ t) : S.later r c t = true ↔ (∃ u, t ≤ u ∧ u < T.base + 256 ∧ T.pl r (u % 256) ≠ -1 ∧ (c = -1 ∨ T.pl r (u % 256) = c)) ∨ ∃ y, y ∈ T.sp r ∧ (c = -1 ∨ (y.1 : Int) = c) ∧ t < y.2.2 := by
  unfold MdS.later
  rw [Bool.or_eq_true, laterT_iff, laterS_iff]
  refine or_congr ⟨?_, ?_⟩ ⟨?_, ?_⟩
  · rintro ⟨⟨q, d, u⟩, h1, rfl, h3, h4⟩
    obtain ⟨-, h5, h6, h7⟩ := (h.tm _ _ _).1 h1
    exact ⟨u, by simp only at h4; omega, h6, by rw [h7]; omega, by rw [h7]; exact h3⟩
  · rintro ⟨u, h1, h2, h3, h4⟩
    have hbd := hb.pl r (u % 256) hr (Nat.mod_lt _ (by omega))
    obtain ⟨d, hd⟩ := Int.eq_ofNat_of_zero_le (show 0 ≤ T.pl r (u % 256) by omega)
    refine ⟨(r, d, u), (h.tm _ _ _).2 ⟨hr, by omega, h2, hd⟩, rfl, ?_, by simp only; omega⟩
    rw [hd] at h4
    exact h4
  · rintro ⟨⟨q, y⟩, h1, rfl, h3, h4⟩
    exact ⟨y, (h.mem_sp hr y).1 h1, h3, by simp only at h4; omega⟩
  · rintro ⟨y, h1, h2, h3⟩
    exact ⟨(r, y), (h.mem_sp hr y).2 h1, rfl, h2, by simp only; omega⟩
theorem anyPl_iff (r : Nat) : ∀ n t, T.anyPl r t n = true ↔ ∃ u, t ≤ u ∧ u < t + n ∧ T.pl r (u % 256) ≠ -1 := by
  intro n
  induction n with
  | zero => intro t; simp [TabS.anyPl]; omega
  | succ n ih =>
    intro t
    simp only [TabS.anyPl]
    split
    · next hp =>
      rw [ih]
      constructor
      · rintro ⟨u, h1, h2, h3⟩; exact ⟨u, by omega, by omega, h3⟩
      · rintro ⟨u, h1, h2, h3⟩
        refine ⟨u, ?_, by omega, h3⟩
        by_cases e : u = t
        · subst e; exact absurd hp h3
        · omega
    · next hp => exact ⟨fun _ => ⟨t, by omega, by omega, hp⟩, fun _ => rfl⟩
theorem lastBusy_iff {b : Nat} {l : List (Nat × Nat × Nat)} (ho : SOrd b l) (t : Nat) : lastBusy l t = true ↔ ∃ y, y ∈ l ∧ t < y.2.2 := by
  rcases List.eq_nil_or_concat l with rfl | ⟨l', y, rfl⟩
  · simp [lastBusy]
  · simp only [lastBusy, List.concat_eq_append, List.getLast?_append, List.getLast?_singleton, Option.some_or, decide_eq_true_eq]
    constructor
    · intro h; exact ⟨y, by simp, h⟩
    · rintro ⟨z, hz, h2⟩
      simp at hz
      rcases hz with hz | rfl
      · have hp := ho.2
        rw [List.concat_eq_append, List.pairwise_append] at hp
        have h3 := hp.2.2 z hz y (by simp)
        have h4 := ho.1 y (by simp)
        omega
      · exact h2
theorem RT.busy (h : RT T S) (g : Fit T) {r : Nat} (hr : r < T.nr) {t : Nat} (ht : T.base ≤ t) : S.later r (-1) t = T.busy r t := by
  rw [Bool.eq_iff_iff, h.later_iff g.bd hr _ ht]
  unfold TabS.busy
  rw [Bool.or_eq_true, anyPl_iff, lastBusy_iff (g.ord r hr)]
  refine or_congr ⟨?_, ?_⟩ ⟨?_, ?_⟩
  · rintro ⟨u, h1, h2, h3, -⟩; exact ⟨u, h1, by omega, h3⟩
  · rintro ⟨u, h1, h2, h3⟩; exact ⟨u, h1, by omega, h3, Or.inl rfl⟩
  · rintro ⟨y, h1, -, h3⟩; exact ⟨y, h1, h3⟩
  · rintro ⟨y, h1, h3⟩; exact ⟨y, h1, Or.inl rfl, h3⟩
theorem anyGr_iff (r c : Nat) : ∀ n t, T.anyGr r c t n = true ↔ ∃ u, t ≤ u ∧ u < t + n ∧ T.gr (u % 256 * T.nc + c) ≠ 0 ∧ T.gr (u % 256 * T.nc + c) - 1 ≠ r := by
  intro n
  induction n with
  | zero => intro t; simp [TabS.anyGr]; omega
  | succ n ih =>
    intro t
    simp only [TabS.anyGr]
    split
    · next hp => exact ⟨fun _ => ⟨t, by omega, by omega, hp⟩, fun _ => rfl⟩
    · next hp =>
      rw [ih]
      constructor
      · rintro ⟨u, h1, h2, h3⟩; exact ⟨u, by omega, by omega, h3⟩
      · rintro ⟨u, h1, h2, h3⟩
        refine ⟨u, ?_, by omega, h3⟩
        by_cases e : u = t
        · subst e; exact absurd h3 hp
        · omega
theorem spLate_iff (l : List (Nat × Nat × Nat)) (c t : Nat) : spLate l c t = true ↔ ∃ y, y ∈ l ∧ y.1 = c ∧ t < y.2.2 := by
  induction l with
  | nil => simp [spLate]
  | cons x l ih =>
    simp only [spLate]
    by_cases h : x.1 = c ∧ t < x.2.2
    · rw [if_pos h]
      exact ⟨fun _ => ⟨x, List.mem_cons_self, h⟩, fun _ => rfl⟩
    · rw [if_neg h, ih]
      constructor
      · rintro ⟨y, h1, h2⟩; exact ⟨y, List.mem_cons_of_mem _ h1, h2⟩
      · rintro ⟨y, h1, h2⟩
        rcases List.mem_cons.1 h1 with rfl | h1
        · exact absurd h2 h
        · exact ⟨y, h1, h2⟩
theorem late_iff (r c t : Nat) : ∀ n k, T.late r c t k n = true ↔ ∃ q, k ≤ q ∧ q < k + n ∧ q ≠ r ∧ spLate (T.sp q) c t = true := by
  intro n
  induction n with
  | zero => intro k; simp [TabS.late]; omega
  | succ n ih =>
    intro k
    simp only [TabS.late]
    by_cases h : k ≠ r ∧ spLate (T.sp k) c t = true
    · rw [if_pos h]
      exact ⟨fun _ => ⟨k, by omega, by omega, h⟩, fun _ => rfl⟩
    · rw [if_neg h, ih]
      constructor
      · rintro ⟨q, h1, h2, h3⟩; exact ⟨q, by omega, by omega, h3⟩
      · rintro ⟨q, h1, h2, h3⟩
        refine ⟨q, ?_, by omega, h3⟩
        by_cases e : q = k
        · subst e; exact absurd h3 h
        · omega
theorem busyN_iff (r c t : Int) : ∀ n k, S.busyN r c t k n = true ↔ ∃ q : Nat, k ≤ q ∧ q < k + n ∧ (q : Int) ≠ r ∧ S.later q c t = true := by
  intro n
  induction n with
  | zero => intro k; simp [MdS.busyN]; omega
  | succ n ih =>
    intro k
    simp only [MdS.busyN, Bool.or_eq_true, Bool.and_eq_true, decide_eq_true_eq]
    rw [ih]
    constructor
    · rintro (h | ⟨q, h1, h2, h3⟩)
      · exact ⟨k, by omega, by omega, h⟩
      · exact ⟨q, by omega, by omega, h3⟩
    · rintro ⟨q, h1, h2, h3⟩
      by_cases e : q = k
      · subst e; left; exact h3
      · right; exact ⟨q, by omega, by omega, h3⟩
theorem RT.free (h : RT T S) (g : Fit T) {r c t : Nat} (hc : c < T.nc) (ht : T.base ≤ t) : S.freeF r c t = T.free r c t := by
  unfold MdS.freeF TabS.free
  congr 1
  rw [Bool.eq_iff_iff, busyN_iff, Bool.or_eq_true, anyGr_iff, late_iff, h.nr]
  constructor
  · rintro ⟨q, -, h2, h3, h4⟩
    have hq : q < T.nr := by omega
    rcases (h.later_iff g.bd hq _ ht).1 h4 with ⟨u, a1, a2, a3, a4⟩ | ⟨y, a1, a2, a3⟩
    · left
      rcases a4 with a4 | a4
      · omega
      · have := g.con.gp q (u % 256) c hq (Nat.mod_lt _ (by omega)) a4
        exact ⟨u, a1, by omega, by rw [this]; omega, by rw [this]; omega⟩
    · right
      rcases a2 with a2 | a2
      · omega
      · exact ⟨q, by omega, by omega, by omega, (spLate_iff _ _ _).2 ⟨y, a1, by omega, a3⟩⟩
  · rintro (⟨u, a1, a2, a3, a4⟩ | ⟨q, a1, a2, a3, a4⟩)
    · have hi : u % 256 * T.nc + c < 256 * T.nc := by
        have h1 := Nat.mul_le_mul_right T.nc (show u % 256 + 1 ≤ 256 by omega)
        rw [Nat.add_mul, Nat.one_mul] at h1
        omega
      have hbd := g.bd.gr _ hi
      obtain ⟨q, hq⟩ : ∃ q : Nat, T.gr (u % 256 * T.nc + c) = ((q + 1 : Nat) : Int) := ⟨(T.gr (u % 256 * T.nc + c) - 1).toNat, by omega⟩
      obtain ⟨h1, h2⟩ := g.con.pg q (u % 256) c (Nat.mod_lt _ (by omega)) hc hq
      refine ⟨q, by omega, by omega, by omega, (h.later_iff g.bd h1 _ ht).2 (Or.inl ⟨u, a1, by omega, by rw [h2]; omega, Or.inr h2⟩)⟩
    · obtain ⟨y, b1, b2, b3⟩ := (spLate_iff _ _ _).1 a4
      exact ⟨q, by omega, by omega, by omega, (h.later_iff g.bd (by omega) _ ht).2 (Or.inr ⟨y, b1, Or.inr (by omega), b3⟩)⟩

theorem RT.sit (h : RT T S) {r c t : Nat} (hr : r < T.nr) : RT (T.sit r c t) (S.sit r c t) := by
  refine ⟨h.nc, h.nr, h.cap, h.base, h.tm, h.nd, fun q hq => ?_, fun x hx => ?_⟩
  · show ((S.sp ++ [(r, c, t, 1099511627776)]).filter (fun (x : Nat × Nat × Nat × Nat) => decide (x.1 = q))).map (fun (x : Nat × Nat × Nat × Nat) => x.2) = upd T.sp r (T.sp r ++ [(c, t, 1099511627776)]) q
    rw [List.filter_append, List.map_append, h.sp q hq]
    by_cases e : q = r
    · subst e
      rw [upd_at]
      simp
    · rw [upd_ne _ _ e, List.filter_cons_of_neg (by simp; omega)]
      simp
  · rcases List.mem_append.1 (show x ∈ S.sp ++ [(r, c, t, 1099511627776)] from hx) with hx | hx
    · exact h.sr x hx
    · simp at hx
      subst hx
      exact hr
theorem sit_at_ne {r c t q : Nat} (hq : q ≠ r) (u : Int) : (T.sit r c t).at q u = T.at q u := by
  unfold TabS.at TabS.win
  rw [show (T.sit r c t).sp q = T.sp q from upd_ne _ _ hq]
  rfl
theorem sit_at {r c t : Nat} (u : Int) : (T.sit r c t).at r u = if T.at r u ≠ -1 then T.at r u else if (t : Int) ≤ u ∧ u < 1099511627776 then (c : Int) else -1 := by
  unfold TabS.at TabS.win
  rw [show (T.sit r c t).sp r = T.sp r ++ [(c, t, 1099511627776)] from upd_at _ _ _, spAt_app]
  show (if (decide ((T.base : Int) ≤ u) && decide (u < (T.base : Int) + 256)) = true ∧ T.pl r (u.toNat % 256) ≠ -1 then T.pl r (u.toNat % 256) else _) = _
  by_cases h : (decide ((T.base : Int) ≤ u) && decide (u < (T.base : Int) + 256)) = true ∧ T.pl r (u.toNat % 256) ≠ -1
  · rw [if_pos h, if_pos h, if_pos h.2]
  · rw [if_neg h, if_neg h]
    rfl
/-- The model sees a swap behind a standing reservation iff the table foresees one. -/
theorem RT.sitSwap (h : RT T S) (g : Fit T) {r c t : Nat} (hr : r < T.nr) (hc : c < T.nc) (ht : T.base ≤ t ∧ t < T.base + 256) (hbz : T.busy r t = false) :
    (S.sit r c t).swapAt ((t : Int) - 1) = (decide (T.at r ((t : Int) - 1) ≠ -1) && T.swaps (r : Int) (T.at r ((t : Int) - 1)).toNat c ((t : Int) - 1)) := by
  have hR := h.sit (c := c) (t := t) hr
  have hbs := g.bd.base
  have hat : ∀ q, q < T.nr → ∀ u : Int, (S.sit r c t).at q u = (T.sit r c t).at q u := fun q hq u => hR.at' (fun q s h1 h2 => (g.bd.pl q s h1 h2).1) hq u
  have hn : (S.sit r c t).nr = T.nr := h.nr
  have at0 : T.at r (t : Int) = -1 := by
    obtain ⟨b1, b2⟩ := TabS.busy_no g.ord hr ht.1 hbz (Nat.le_refl t)
    rw [TabS.at_win ht, if_neg (by rw [b1 ht.1 ht.2]; simp)]
    exact b2
  have A1 : ∀ q, q < T.nr → (S.sit r c t).at q ((t : Int) - 1) = T.at q ((t : Int) - 1) := fun q hq => by
    rw [hat q hq]
    by_cases e : q = r
    · subst e
      rw [sit_at]
      by_cases e2 : T.at q ((t : Int) - 1) = -1
      · rw [if_neg (by simpa using e2), if_neg (by omega), e2]
      · rw [if_pos e2]
    · exact sit_at_ne e _
  have A2 : ∀ q, q < T.nr → (S.sit r c t).at q ((t : Int) - 1 + 1) = if q = r then (c : Int) else T.at q (t : Int) := fun q hq => by
    rw [show (t : Int) - 1 + 1 = (t : Int) by omega, hat q hq]
    by_cases e : q = r
    · subst e
      rw [sit_at, if_neg (by simpa using at0), if_pos (by omega), if_pos rfl]
    · rw [if_neg e]; exact sit_at_ne e _
  rw [Bool.eq_iff_iff, swapAt_iff, hn, Bool.and_eq_true, decide_eq_true_eq]
  have T2 : T.at r ((t : Int) - 1) ≠ -1 → (T.swaps (r : Int) (T.at r ((t : Int) - 1)).toNat c ((t : Int) - 1) = true ↔ T.at r ((t : Int) - 1) ≠ (c : Int) ∧ ∃ q, q < T.nr ∧ q ≠ r ∧ T.at q ((t : Int) - 1) = (c : Int) ∧ T.at q (t : Int) = T.at r ((t : Int) - 1)) := by
    intro h0
    have hb : T.base < t := by
      by_cases hx : T.base < t
      · exact hx
      · exact absurd (TabS.at_old g.ord hr (t := (t : Int) - 1) (by omega)) h0
    have e : (t : Int) - 1 = ((t - 1 : Nat) : Int) := by omega
    rw [e] at h0 ⊢
    obtain ⟨b1, b2⟩ := TabS.at_lt g.bd hr (t - 1)
    obtain ⟨a, ha⟩ := Int.eq_ofNat_of_zero_le (show 0 ≤ T.at r ((t - 1 : Nat) : Int) by omega)
    rw [ha, Int.toNat_natCast]
    rw [swaps_iff g (by omega) hc (by omega), show ((t - 1 : Nat) : Int) + 1 = (t : Int) by omega]
    constructor
    · rintro ⟨h2, q, h3⟩; exact ⟨by omega, q, h3⟩
    · rintro ⟨h2, q, h3⟩; exact ⟨by omega, q, h3⟩
  constructor
  · intro hs
    have key : ∀ q, (r < T.nr ∧ q < T.nr ∧ r ≠ q ∧ (S.sit r c t).at r ((t : Int) - 1) ≠ -1 ∧ (S.sit r c t).at r ((t : Int) - 1 + 1) ≠ -1 ∧ (S.sit r c t).at r ((t : Int) - 1) ≠ (S.sit r c t).at r ((t : Int) - 1 + 1) ∧ (S.sit r c t).at q ((t : Int) - 1) = (S.sit r c t).at r ((t : Int) - 1 + 1) ∧ (S.sit r c t).at q ((t : Int) - 1 + 1) = (S.sit r c t).at r ((t : Int) - 1)) → T.at r ((t : Int) - 1) ≠ -1 ∧ T.swaps (r : Int) (T.at r ((t : Int) - 1)).toNat c ((t : Int) - 1) = true := by
      rintro q ⟨h1, h2, h3, h4, h5, h6, h7, h8⟩
      rw [A1 r h1] at h4 h6 h8
      rw [A2 r h1, if_pos rfl] at h6 h7
      rw [A1 q h2] at h7
      rw [A2 q h2, if_neg (Ne.symm h3)] at h8
      exact ⟨h4, (T2 h4).2 ⟨h6, q, h2, Ne.symm h3, h7, h8⟩⟩
    obtain ⟨a, q, hsw⟩ := hs
    by_cases har : a = r
    · subst har; exact key q hsw
    · by_cases hqr : q = r
      · subst hqr; exact key a (Swp.symm hsw)
      · obtain ⟨h1, h2, h3, h4, h5, h6, h7, h8⟩ := hsw
        rw [A1 a h1] at h4 h6 h8
        rw [A2 a h1, if_neg har] at h5 h6 h7
        rw [A1 q h2] at h7
        rw [A2 q h2, if_neg hqr] at h8
        exact absurd ⟨a, q, h1, h2, h3, h4, by rw [show (t : Int) - 1 + 1 = (t : Int) by omega]; exact h5, by rw [show (t : Int) - 1 + 1 = (t : Int) by omega]; exact h6, by rw [show (t : Int) - 1 + 1 = (t : Int) by omega]; exact h7, by rw [show (t : Int) - 1 + 1 = (t : Int) by omega]; exact h8⟩ (g.no_swp ((t : Int) - 1))
  · rintro ⟨h1, h2⟩
    obtain ⟨h2, q, h3, h4, h5, h6⟩ := (T2 h1).1 h2
    refine ⟨r, q, hr, h3, Ne.symm h4, ?_, ?_, ?_, ?_, ?_⟩
    · rw [A1 r hr]; exact h1
    · rw [A2 r hr, if_pos rfl]; omega
    · rw [A1 r hr, A2 r hr, if_pos rfl]; exact h2
    · rw [A1 q h3, A2 r hr, if_pos rfl]; exact h5
    · rw [A1 r hr, A2 q h3, if_neg h4]; exact h6
theorem RT.stand (h : RT T S) (g : Fit T) (r c t : Int) : (S.stand r c t).1 = (T.stand r c t).1 ∧ RT (T.stand r c t).2 (S.stand r c t).2 := by
  unfold MdS.stand TabS.stand
  rw [h.place]
  by_cases h1 : T.place r c t ≠ 0
  · rw [if_pos h1, if_pos h1]; exact ⟨rfl, h⟩
  rw [if_neg h1, if_neg h1]
  obtain ⟨⟨r0, r1⟩, ⟨q0, q1⟩, t0, t1⟩ := TabS.place_zero (show T.place r c t = 0 by simpa using h1)
  obtain ⟨r, rfl⟩ := Int.eq_ofNat_of_zero_le r0
  obtain ⟨c, rfl⟩ := Int.eq_ofNat_of_zero_le q0
  obtain ⟨t, rfl⟩ := Int.eq_ofNat_of_zero_le (show 0 ≤ t by omega)
  simp only [Int.toNat_natCast]
  rw [h.busy g (by omega) (by omega), h.free g (by omega) (by omega)]
  by_cases h2 : T.busy r t = true
  · rw [if_pos h2, if_pos h2]; exact ⟨rfl, h⟩
  rw [if_neg h2, if_neg h2]
  by_cases h3 : T.free r c t = false
  · rw [if_pos h3, if_pos h3]; exact ⟨rfl, h⟩
  rw [if_neg h3, if_neg h3]
  rw [h.sitSwap g (by omega) (by omega) (by omega) (by simpa using h2)]
  by_cases h4 : (decide (T.at r ((t : Int) - 1) ≠ -1) && T.swaps (r : Int) (T.at r ((t : Int) - 1)).toNat c ((t : Int) - 1)) = true
  · rw [if_pos h4, if_pos h4]; exact ⟨rfl, h⟩
  rw [if_neg h4, if_neg h4, h.cap, h.held g]
  by_cases h5 : T.cap ≤ S.tr.length + S.sp.length
  · rw [if_pos h5, if_pos (by omega)]; exact ⟨rfl, h⟩
  · rw [if_neg h5, if_neg (by omega)]
    exact ⟨rfl, h.sit (by omega)⟩
end
end Go.Proofs.Qxb6500717aGreat
