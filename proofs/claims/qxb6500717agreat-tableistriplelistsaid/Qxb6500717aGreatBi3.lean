/-
  The table against the model's lists: Reserve.
-/
import Derived.Test.Qxb6500717aGreatBi2
namespace Go.Proofs.Qxb6500717aGreat
open Go.RowKit
set_option linter.unusedSimpArgs false
set_option linter.unusedVariables false

section
variable {T : TabS} {S : MdS}
/-- Two robots change places behind u, by some account of where they are. -/
def Swp (at' : Nat → Int → Int) (n : Nat) (u : Int) : Prop := ∃ r q, r < n ∧ q < n ∧ r ≠ q ∧ at' r u ≠ -1 ∧ at' r (u + 1) ≠ -1 ∧ at' r u ≠ at' r (u + 1) ∧ at' q u = at' r (u + 1) ∧ at' q (u + 1) = at' r u
theorem swpQ_iff (t : Int) (r : Nat) : ∀ n k, S.swpQ t r k n = true ↔ ∃ q, k ≤ q ∧ q < k + n ∧ S.swp2 t r q = true := by
  intro n
  induction n with
  | zero => intro k; simp [MdS.swpQ]; omega
  | succ n ih =>
    intro k
    simp only [MdS.swpQ, Bool.or_eq_true]
    rw [ih]
    constructor
    · rintro (h | ⟨q, h1, h2, h3⟩)
      · exact ⟨k, by omega, by omega, h⟩
      · exact ⟨q, by omega, by omega, h3⟩
    · rintro ⟨q, h1, h2, h3⟩
      by_cases e : q = k
      · subst e; left; exact h3
      · right; exact ⟨q, by omega, by omega, h3⟩
theorem swpR_iff (t : Int) : ∀ n k, S.swpR t k n = true ↔ ∃ r, k ≤ r ∧ r < k + n ∧ S.swpQ t r 0 S.nr = true := by
  intro n
  induction n with
  | zero => intro k; simp [MdS.swpR]; omega
  | succ n ih =>
    intro k
    simp only [MdS.swpR, Bool.or_eq_true]
    rw [ih]
    constructor
    · rintro (h | ⟨q, h1, h2, h3⟩)
      · exact ⟨k, by omega, by omega, h⟩
      · exact ⟨q, by omega, by omega, h3⟩
    · rintro ⟨q, h1, h2, h3⟩
      by_cases e : q = k
      · subst e; left; exact h3
      · right; exact ⟨q, by omega, by omega, h3⟩
theorem swapAt_iff (t : Int) : S.swapAt t = true ↔ Swp S.at S.nr t := by
  unfold MdS.swapAt
  rw [swpR_iff]
  constructor
  · rintro ⟨r, h1, h2, h3⟩
    obtain ⟨q, h4, h5, h6⟩ := (swpQ_iff t r _ _).1 h3
    unfold MdS.swp2 at h6
    simp only [Bool.and_eq_true, decide_eq_true_eq] at h6
    obtain ⟨⟨⟨⟨⟨a1, a2⟩, a3⟩, a4⟩, a5⟩, a6⟩ := h6
    exact ⟨r, q, by omega, by omega, a1, a2, a3, a4, a5, a6⟩
  · rintro ⟨r, q, h1, h2, a1, a2, a3, a4, a5, a6⟩
    refine ⟨r, by omega, by omega, (swpQ_iff t r _ _).2 ⟨q, by omega, by omega, ?_⟩⟩
    unfold MdS.swp2
    simp only [Bool.and_eq_true, decide_eq_true_eq]
    exact ⟨⟨⟨⟨⟨a1, a2⟩, a3⟩, a4⟩, a5⟩, a6⟩
theorem Swp.symm {f : Nat → Int → Int} {n : Nat} {u : Int} {r q : Nat} (h : r < n ∧ q < n ∧ r ≠ q ∧ f r u ≠ -1 ∧ f r (u + 1) ≠ -1 ∧ f r u ≠ f r (u + 1) ∧ f q u = f r (u + 1) ∧ f q (u + 1) = f r u) : q < n ∧ r < n ∧ q ≠ r ∧ f q u ≠ -1 ∧ f q (u + 1) ≠ -1 ∧ f q u ≠ f q (u + 1) ∧ f r u = f q (u + 1) ∧ f r (u + 1) = f q u := by
  obtain ⟨h1, h2, h3, h4, h5, h6, h7, h8⟩ := h
  exact ⟨h2, h1, Ne.symm h3, by rw [h7]; exact h5, by rw [h8]; exact h4, by rw [h7, h8]; exact Ne.symm h6, h8.symm, h7.symm⟩
/-- A good table knows of no swaps. -/
theorem Fit.no_swp (g : Fit T) (u : Int) : ¬ Swp T.at T.nr u := by
  rintro ⟨r, q, h1, h2, h3, h4, h5, h6, h7, h8⟩
  by_cases hu : u < T.base
  · exact h4 (TabS.at_old g.ord h1 hu)
  · obtain ⟨n, rfl⟩ := Int.eq_ofNat_of_zero_le (show 0 ≤ u by omega)
    rw [show (n : Int) + 1 = ((n + 1 : Nat) : Int) by omega] at h5 h6 h7 h8
    exact g.noc.swp r q n h1 h2 h3 (by omega) h4 h5 ⟨h8.symm, h7.symm⟩
theorem swaps_iff (g : Fit T) {r a b u : Nat} (ha : a < T.nc) (hb : b < T.nc) (hu : T.base ≤ u) : T.swaps (r : Int) a b (u : Int) = true ↔ a ≠ b ∧ ∃ q, q < T.nr ∧ q ≠ r ∧ T.at q u = (b : Int) ∧ T.at q ((u : Int) + 1) = (a : Int) := by
  unfold TabS.swaps
  by_cases e : a = b
  · rw [if_pos e]; simp [e]
  rw [if_neg e, decide_eq_true_eq]
  have e1 : (u : Int) + 1 = ((u + 1 : Nat) : Int) := by omega
  rw [e1]
  constructor
  · rintro ⟨h1, h2, h3⟩
    refine ⟨e, ?_⟩
    have hn := TabS.hold_nn g.bd (t := u) hb
    obtain ⟨q, hq⟩ := Int.eq_ofNat_of_zero_le (show 0 ≤ T.hold b u by omega)
    obtain ⟨h4, h5⟩ := (g.hold_iff hb hu q).1 hq
    rw [hq] at h3
    obtain ⟨-, h6⟩ := (g.hold_iff ha (by omega) q).1 h3
    exact ⟨q, h4, by omega, h5, h6⟩
  · rintro ⟨-, q, h1, h2, h3, h4⟩
    have h5 := (g.hold_iff hb hu q).2 ⟨h1, h3⟩
    have h6 := (g.hold_iff ha (show T.base ≤ u + 1 by omega) q).2 ⟨h1, h4⟩
    rw [h5, h6]
    exact ⟨by omega, by omega, rfl⟩
/-- What 'joins' asks. -/
theorem joins_iff (g : Fit T) {r c t : Nat} (hr : r < T.nr) (hc : c < T.nc) (ht : T.base ≤ t) : T.joins r c t = true ↔
    (T.at r ((t : Int) - 1) ≠ -1 ∧ T.at r ((t : Int) - 1) ≠ (c : Int) ∧ ∃ q, q < T.nr ∧ q ≠ r ∧ T.at q ((t : Int) - 1) = (c : Int) ∧ T.at q (t : Int) = T.at r ((t : Int) - 1)) ∨
    (T.at r ((t : Int) + 1) ≠ -1 ∧ T.at r ((t : Int) + 1) ≠ (c : Int) ∧ ∃ q, q < T.nr ∧ q ≠ r ∧ T.at q (t : Int) = T.at r ((t : Int) + 1) ∧ T.at q ((t : Int) + 1) = (c : Int)) := by
  unfold TabS.joins
  rw [Bool.or_eq_true, Bool.and_eq_true, Bool.and_eq_true, decide_eq_true_eq, decide_eq_true_eq]
  refine or_congr ?_ ?_
  · by_cases h0 : T.at r ((t : Int) - 1) = -1
    · simp [h0]
    · have hb : T.base < t := by
        by_cases hx : T.base < t
        · exact hx
        · exact absurd (TabS.at_old g.ord hr (t := (t : Int) - 1) (by omega)) h0
      have e : (t : Int) - 1 = ((t - 1 : Nat) : Int) := by omega
      rw [e] at h0 ⊢
      obtain ⟨b1, b2⟩ := TabS.at_lt g.bd hr (t - 1)
      obtain ⟨a, ha⟩ := Int.eq_ofNat_of_zero_le (show 0 ≤ T.at r ((t - 1 : Nat) : Int) by omega)
      rw [ha, Int.toNat_natCast]
      rw [swaps_iff g (by omega) hc (by omega), show ((t - 1 : Nat) : Int) + 1 = (t : Int) by omega]
      constructor
      · rintro ⟨h1, h2, q, h3⟩; exact ⟨h1, by omega, q, h3⟩
      · rintro ⟨h1, h2, q, h3⟩; exact ⟨h1, by omega, q, h3⟩
  · by_cases h0 : T.at r ((t : Int) + 1) = -1
    · simp [h0]
    · have e : (t : Int) + 1 = ((t + 1 : Nat) : Int) := by omega
      rw [e] at h0
      obtain ⟨b1, b2⟩ := TabS.at_lt g.bd hr (t + 1)
      obtain ⟨a, ha⟩ := Int.eq_ofNat_of_zero_le (show 0 ≤ T.at r ((t + 1 : Nat) : Int) by omega)
      rw [← e] at ha b1 b2
      rw [ha, Int.toNat_natCast]
      rw [swaps_iff g hc (by omega) ht]
      constructor
      · rintro ⟨h1, h2, q, h3⟩; exact ⟨h1, by omega, q, h3⟩
      · rintro ⟨h1, h2, q, h3⟩; exact ⟨h1, by omega, q, h3⟩

theorem put_bd (hb : TBd T) (r c t : Nat) : ∀ q s, q < (T.put r c t).nr → s < 256 → -1 ≤ (T.put r c t).pl q s := by
  intro q s hq hs
  show -1 ≤ upd2 T.pl r (t % 256) (c : Int) q s
  unfold upd2
  split
  · omega
  · exact (hb.pl q s hq hs).1
theorem RT.put (h : RT T S) (hb : TBd T) {r c t : Nat} (hr : r < T.nr) (ht : T.base ≤ t ∧ t < T.base + 256) (hp : T.pl r (t % 256) = -1) : RT (T.put r c t) (S.add r c t) := by
  refine ⟨h.nc, h.nr, h.cap, h.base, fun q d u => ?_, ?_, h.sp, h.sr⟩
  · show (q, d, u) ∈ S.tr ++ [(r, c, t)] ↔ q < T.nr ∧ T.base ≤ u ∧ u < T.base + 256 ∧ upd2 T.pl r (t % 256) (c : Int) q (u % 256) = (d : Int)
    rw [List.mem_append, h.tm]
    unfold upd2
    constructor
    · rintro (⟨h1, h2, h3, h4⟩ | h1)
      · refine ⟨h1, h2, h3, ?_⟩
        rw [if_neg]
        · exact h4
        · rintro ⟨rfl, e⟩
          rw [e, hp] at h4
          omega
      · simp at h1
        obtain ⟨rfl, rfl, rfl⟩ := h1
        exact ⟨hr, ht.1, ht.2, by rw [if_pos ⟨rfl, rfl⟩]⟩
    · rintro ⟨h1, h2, h3, h4⟩
      split at h4
      · next he =>
        right
        have : u = t := by omega
        simp
        omega
      · left; exact ⟨h1, h2, h3, h4⟩
  · show (S.tr ++ [(r, c, t)]).Nodup
    rw [List.nodup_append]
    refine ⟨h.nd, by simp, ?_⟩
    rintro ⟨q, d, u⟩ h1 y h2 e
    simp at h2
    subst h2
    simp only [Prod.mk.injEq] at e
    obtain ⟨rfl, rfl, rfl⟩ := e
    have := ((h.tm _ _ _).1 h1).2.2.2
    rw [hp] at this
    omega
theorem put_at_old (ho : Ord T) {r c t q : Nat} (hq : q < T.nr) {u : Int} (hu : u < T.base) : (T.put r c t).at q u = -1 := TabS.at_old (T := T.put r c t) (ho.of ⟨rfl, rfl, rfl⟩) hq hu
/-- The model sees a swap behind a reservation iff the table foresees one. -/
theorem RT.joins (h : RT T S) (g : Fit T) {r c t : Nat} (hr : r < T.nr) (hc : c < T.nc) (ht : T.base ≤ t ∧ t < T.base + 256) (ha : T.at r t = -1) :
    ((S.add r c t).swapAt ((t : Int) - 1) || (S.add r c t).swapAt (t : Int)) = T.joins r c t := by
  have hR := h.put (c := c) g.bd hr ht (TabS.at_free ht ha).1
  have hat : ∀ q, q < T.nr → ∀ u : Int, (S.add r c t).at q u = (T.put r c t).at q u := fun q hq u => hR.at' (put_bd g.bd r c t) hq u
  have hn : (S.add r c t).nr = T.nr := h.nr
  have A : ∀ q u, q < T.nr → T.base ≤ u → (S.add r c t).at q (u : Int) = if q = r ∧ u = t then (c : Int) else T.at q (u : Int) := fun q u hq hu => by rw [hat q hq, TabS.at_put ht q u hu]
  have B : ∀ q u, q < T.nr → u < (T.base : Int) → (S.add r c t).at q u = -1 := fun q u hq hu => by rw [hat q hq]; exact put_at_old g.ord hq hu
  rw [Bool.eq_iff_iff, Bool.or_eq_true, swapAt_iff, swapAt_iff, joins_iff g hr hc ht.1, hn]
  refine or_congr ⟨?_, ?_⟩ ⟨?_, ?_⟩
  · -- a swap behind t - 1
    intro hs
    have hb : T.base < t := by
      obtain ⟨a, -, h1, -, -, h4, -⟩ := hs
      by_cases hx : T.base < t
      · exact hx
      · exact absurd (B a _ h1 (by omega)) h4
    have e : (t : Int) - 1 = ((t - 1 : Nat) : Int) := by omega
    have A1 : ∀ q, q < T.nr → (S.add r c t).at q ((t : Int) - 1) = T.at q ((t : Int) - 1) := fun q hq => by rw [e, A q (t - 1) hq (by omega), if_neg (by omega)]
    have A2 : ∀ q, q < T.nr → (S.add r c t).at q ((t : Int) - 1 + 1) = if q = r then (c : Int) else T.at q (t : Int) := fun q hq => by
      rw [show (t : Int) - 1 + 1 = (t : Int) by omega, A q t hq ht.1]
      by_cases hq2 : q = r
      · rw [if_pos ⟨hq2, rfl⟩, if_pos hq2]
      · rw [if_neg (fun h => hq2 h.1), if_neg hq2]
    have key : ∀ q, (r < T.nr ∧ q < T.nr ∧ r ≠ q ∧ (S.add r c t).at r ((t : Int) - 1) ≠ -1 ∧ (S.add r c t).at r ((t : Int) - 1 + 1) ≠ -1 ∧ (S.add r c t).at r ((t : Int) - 1) ≠ (S.add r c t).at r ((t : Int) - 1 + 1) ∧ (S.add r c t).at q ((t : Int) - 1) = (S.add r c t).at r ((t : Int) - 1 + 1) ∧ (S.add r c t).at q ((t : Int) - 1 + 1) = (S.add r c t).at r ((t : Int) - 1)) → T.at r ((t : Int) - 1) ≠ -1 ∧ T.at r ((t : Int) - 1) ≠ (c : Int) ∧ ∃ q, q < T.nr ∧ q ≠ r ∧ T.at q ((t : Int) - 1) = (c : Int) ∧ T.at q (t : Int) = T.at r ((t : Int) - 1) := by
      rintro q ⟨h1, h2, h3, h4, h5, h6, h7, h8⟩
      rw [A1 r h1] at h4 h6 h8
      rw [A2 r h1, if_pos rfl] at h6 h7
      rw [A1 q h2] at h7
      rw [A2 q h2, if_neg (Ne.symm h3)] at h8
      exact ⟨h4, h6, q, h2, Ne.symm h3, h7, h8⟩
    obtain ⟨a, q, hsw⟩ := hs
    by_cases har : a = r
    · subst har; exact key q hsw
    · by_cases hqr : q = r
      · subst hqr; exact key a (Swp.symm hsw)
      · obtain ⟨h1, h2, h3, h4, h5, h6, h7, h8⟩ := hsw
        rw [A1 a h1] at h4 h6 h8
        rw [A2 a h1, if_neg har] at h5 h6 h7
        rw [A1 q h2] at h7
        rw [A2 q h2, if_neg hqr] at h8
        exact absurd ⟨a, q, h1, h2, h3, h4, by rw [show (t : Int) - 1 + 1 = (t : Int) by omega]; exact h5, by rw [show (t : Int) - 1 + 1 = (t : Int) by omega]; exact h6, by rw [show (t : Int) - 1 + 1 = (t : Int) by omega]; exact h7, by rw [show (t : Int) - 1 + 1 = (t : Int) by omega]; exact h8⟩ (g.no_swp ((t : Int) - 1))
  · rintro ⟨h1, h2, q, h3, h4, h5, h6⟩
    have hb : T.base < t := by
      by_cases hx : T.base < t
      · exact hx
      · exact absurd (TabS.at_old g.ord hr (t := (t : Int) - 1) (by omega)) h1
    have e : (t : Int) - 1 = ((t - 1 : Nat) : Int) := by omega
    have A1 : ∀ q, q < T.nr → (S.add r c t).at q ((t : Int) - 1) = T.at q ((t : Int) - 1) := fun q hq => by rw [e, A q (t - 1) hq (by omega), if_neg (by omega)]
    refine ⟨r, q, hr, h3, Ne.symm h4, ?_, ?_, ?_, ?_, ?_⟩
    · rw [A1 r hr]; exact h1
    · rw [show (t : Int) - 1 + 1 = (t : Int) by omega, A r t hr ht.1, if_pos ⟨rfl, rfl⟩]; omega
    · rw [A1 r hr, show (t : Int) - 1 + 1 = (t : Int) by omega, A r t hr ht.1, if_pos ⟨rfl, rfl⟩]; exact h2
    · rw [A1 q h3, show (t : Int) - 1 + 1 = (t : Int) by omega, A r t hr ht.1, if_pos ⟨rfl, rfl⟩]; exact h5
    · rw [A1 r hr, show (t : Int) - 1 + 1 = (t : Int) by omega, A q t h3 ht.1, if_neg (fun h => h4 h.1)]; exact h6
  · intro hs
    have e : (t : Int) + 1 = ((t + 1 : Nat) : Int) := by omega
    have A2 : ∀ q, q < T.nr → (S.add r c t).at q ((t : Int) + 1) = T.at q ((t : Int) + 1) := fun q hq => by rw [e, A q (t + 1) hq (by omega), if_neg (by omega)]
    have A1 : ∀ q, q < T.nr → (S.add r c t).at q (t : Int) = if q = r then (c : Int) else T.at q (t : Int) := fun q hq => by
      rw [A q t hq ht.1]
      by_cases hq2 : q = r
      · rw [if_pos ⟨hq2, rfl⟩, if_pos hq2]
      · rw [if_neg (fun h => hq2 h.1), if_neg hq2]
    have key : ∀ q, (r < T.nr ∧ q < T.nr ∧ r ≠ q ∧ (S.add r c t).at r (t : Int) ≠ -1 ∧ (S.add r c t).at r ((t : Int) + 1) ≠ -1 ∧ (S.add r c t).at r (t : Int) ≠ (S.add r c t).at r ((t : Int) + 1) ∧ (S.add r c t).at q (t : Int) = (S.add r c t).at r ((t : Int) + 1) ∧ (S.add r c t).at q ((t : Int) + 1) = (S.add r c t).at r (t : Int)) → T.at r ((t : Int) + 1) ≠ -1 ∧ T.at r ((t : Int) + 1) ≠ (c : Int) ∧ ∃ q, q < T.nr ∧ q ≠ r ∧ T.at q (t : Int) = T.at r ((t : Int) + 1) ∧ T.at q ((t : Int) + 1) = (c : Int) := by
      rintro q ⟨h1, h2, h3, h4, h5, h6, h7, h8⟩
      rw [A2 r h1] at h5 h6 h7
      rw [A1 r h1, if_pos rfl] at h6 h8
      rw [A1 q h2, if_neg (Ne.symm h3)] at h7
      rw [A2 q h2] at h8
      exact ⟨h5, Ne.symm h6, q, h2, Ne.symm h3, h7, h8⟩
    obtain ⟨a, q, hsw⟩ := hs
    by_cases har : a = r
    · subst har; exact key q hsw
    · by_cases hqr : q = r
      · subst hqr; exact key a (Swp.symm hsw)
      · obtain ⟨h1, h2, h3, h4, h5, h6, h7, h8⟩ := hsw
        rw [A1 a h1, if_neg har] at h4 h6 h8
        rw [A2 a h1] at h5 h6 h7
        rw [A1 q h2, if_neg hqr] at h7
        rw [A2 q h2] at h8
        exact absurd ⟨a, q, h1, h2, h3, h4, h5, h6, h7, h8⟩ (g.no_swp (t : Int))
  · rintro ⟨h1, h2, q, h3, h4, h5, h6⟩
    have e : (t : Int) + 1 = ((t + 1 : Nat) : Int) := by omega
    have A2 : ∀ q, q < T.nr → (S.add r c t).at q ((t : Int) + 1) = T.at q ((t : Int) + 1) := fun q hq => by rw [e, A q (t + 1) hq (by omega), if_neg (by omega)]
    refine ⟨r, q, hr, h3, Ne.symm h4, ?_, ?_, ?_, ?_, ?_⟩
    · rw [A r t hr ht.1, if_pos ⟨rfl, rfl⟩]; omega
    · rw [A2 r hr]; exact h1
    · rw [A2 r hr, A r t hr ht.1, if_pos ⟨rfl, rfl⟩]; exact Ne.symm h2
    · rw [A2 r hr, A q t h3 ht.1, if_neg (fun h => h4 h.1)]; exact h5
    · rw [A2 q h3, A r t hr ht.1, if_pos ⟨rfl, rfl⟩]; exact h6
theorem RT.place (h : RT T S) (r c t : Int) : S.place r c t = T.place r c t := by
  unfold MdS.place TabS.place
  rw [h.nr, h.nc, h.base]
/-- Reserve: the same code, and the same relation. -/
theorem RT.reserve (h : RT T S) (g : Fit T) (r c t : Int) : (S.reserve r c t).1 = (T.reserve r c t).1 ∧ RT (T.reserve r c t).2 (S.reserve r c t).2 := by
  unfold MdS.reserve TabS.reserve
  rw [h.place]
  by_cases h1 : T.place r c t ≠ 0
  · rw [if_pos h1, if_pos h1]; exact ⟨rfl, h⟩
  rw [if_neg h1, if_neg h1]
  obtain ⟨⟨r0, r1⟩, ⟨q0, q1⟩, t0, t1⟩ := TabS.place_zero (show T.place r c t = 0 by simpa using h1)
  obtain ⟨r, rfl⟩ := Int.eq_ofNat_of_zero_le r0
  obtain ⟨c, rfl⟩ := Int.eq_ofNat_of_zero_le q0
  obtain ⟨t, rfl⟩ := Int.eq_ofNat_of_zero_le (show 0 ≤ t by omega)
  simp only [Int.toNat_natCast]
  rw [h.at g.bd (by omega), h.hold g (by omega) (by omega)]
  by_cases h2 : T.at r t ≠ -1
  · rw [if_pos h2, if_pos h2]; exact ⟨rfl, h⟩
  rw [if_neg h2, if_neg h2]
  by_cases h3 : T.hold c t ≠ -1
  · rw [if_pos h3, if_pos h3]; exact ⟨rfl, h⟩
  rw [if_neg h3, if_neg h3]
  have ha : T.at r t = -1 := by simpa using h2
  rw [h.joins g (by omega) (by omega) (by omega) ha]
  by_cases h4 : T.joins r c t = true
  · rw [if_pos h4, if_pos h4]; exact ⟨rfl, h⟩
  rw [if_neg h4, if_neg h4, h.cap, h.held g]
  by_cases h5 : T.cap ≤ S.tr.length + S.sp.length
  · rw [if_pos h5, if_pos (by omega)]; exact ⟨rfl, h⟩
  · rw [if_neg h5, if_neg (by omega)]
    exact ⟨rfl, h.put g.bd (by omega) (by omega) (TabS.at_free (by omega) ha).1⟩
end
end Go.Proofs.Qxb6500717aGreat
