/-
  The table against the model's lists: how many there are.
-/
import Derived.Test.Qxb6500717aGreatBi1
import Derived.Test.Qxb6500717aGreatCnt
namespace Go.Proofs.Qxb6500717aGreat
open Go.RowKit
set_option linter.unusedSimpArgs false
set_option linter.unusedVariables false

theorem len_same {α : Type} [DecidableEq α] : ∀ {l l' : List α}, l.Nodup → l'.Nodup → (∀ x, x ∈ l ↔ x ∈ l') → l.length = l'.length := by
  intro l
  induction l with
  | nil =>
    intro l' _ _ h
    cases l' with
    | nil => rfl
    | cons y l' => exact absurd ((h y).2 List.mem_cons_self) (by simp)
  | cons x l ih =>
    intro l' h1 h2 h
    have hx : x ∈ l' := (h x).1 List.mem_cons_self
    have hn := List.nodup_cons.1 h1
    have := ih hn.2 (h2.erase x) (fun y => by
      rw [h2.mem_erase_iff]
      constructor
      · intro hy
        exact ⟨fun e => hn.1 (e ▸ hy), (h y).1 (List.mem_cons_of_mem _ hy)⟩
      · rintro ⟨h3, h4⟩
        rcases List.mem_cons.1 ((h y).2 h4) with h5 | h5
        · exact absurd h5 h3
        · exact h5)
    rw [List.length_cons, this, List.length_erase_of_mem hx]
    have : 0 < l'.length := List.length_pos_of_mem hx
    omega
section
variable {T : TabS} {S : MdS}
theorem tripR_iff (hb : TBd T) {r : Nat} (hr : r < T.nr) (q c u : Nat) : ∀ n t, (q, c, u) ∈ T.tripR r t n ↔ q = r ∧ t ≤ u ∧ u < t + n ∧ T.pl r (u % 256) = (c : Int) := by
  intro n
  induction n with
  | zero => intro t; simp [TabS.tripR]; omega
  | succ n ih =>
    intro t
    have hbd := hb.pl r (t % 256) hr (Nat.mod_lt _ (by omega))
    simp only [TabS.tripR]
    split
    · next hp =>
      rw [ih]
      constructor
      · rintro ⟨h1, h2, h3, h4⟩; exact ⟨h1, by omega, by omega, h4⟩
      · rintro ⟨h1, h2, h3, h4⟩
        refine ⟨h1, ?_, by omega, h4⟩
        by_cases e : u = t
        · subst e; rw [hp] at h4; omega
        · omega
    · next hp =>
      rw [List.mem_cons, ih]
      constructor
      · rintro (h | ⟨h1, h2, h3, h4⟩)
        · simp only [Prod.mk.injEq] at h
          obtain ⟨h1, h2, h3⟩ := h
          subst h1 h3
          exact ⟨rfl, by omega, by omega, by omega⟩
        · exact ⟨h1, by omega, by omega, h4⟩
      · rintro ⟨h1, h2, h3, h4⟩
        by_cases e : u = t
        · subst e
          left
          rw [h1, h4]
          simp
        · right; exact ⟨h1, by omega, by omega, h4⟩
theorem tripN_iff (hb : TBd T) (q c u : Nat) : ∀ n k, k + n ≤ T.nr → ((q, c, u) ∈ T.tripN k n ↔ (k ≤ q ∧ q < k + n) ∧ T.base ≤ u ∧ u < T.base + 256 ∧ T.pl q (u % 256) = (c : Int)) := by
  intro n
  induction n with
  | zero => intro k _; simp [TabS.tripN]; omega
  | succ n ih =>
    intro k hk
    simp only [TabS.tripN]
    rw [List.mem_append, tripR_iff hb (by omega), ih (k + 1) (by omega)]
    constructor
    · rintro (⟨rfl, h2, h3, h4⟩ | ⟨h1, h2, h3, h4⟩)
      · exact ⟨by omega, h2, h3, h4⟩
      · exact ⟨by omega, h2, h3, h4⟩
    · rintro ⟨h1, h2, h3, h4⟩
      by_cases e : q = k
      · subst e; left; exact ⟨rfl, h2, h3, h4⟩
      · right; exact ⟨by omega, h2, h3, h4⟩
theorem tripR_nodup (hb : TBd T) {r : Nat} (hr : r < T.nr) : ∀ n t, (T.tripR r t n).Nodup := by
  intro n
  induction n with
  | zero => intro t; exact List.nodup_nil
  | succ n ih =>
    intro t
    simp only [TabS.tripR]
    split
    · exact ih _
    · rw [List.nodup_cons]
      refine ⟨fun hm => ?_, ih _⟩
      have := (tripR_iff hb hr _ _ _ n (t + 1)).1 hm
      omega
theorem tripN_nodup (hb : TBd T) : ∀ n k, k + n ≤ T.nr → (T.tripN k n).Nodup := by
  intro n
  induction n with
  | zero => intro k _; exact List.nodup_nil
  | succ n ih =>
    intro k hk
    simp only [TabS.tripN]
    rw [List.nodup_append]
    refine ⟨tripR_nodup hb (by omega) _ _, ih _ (by omega), ?_⟩
    rintro ⟨a, b, c⟩ h1 ⟨a', b', c'⟩ h2 e
    have h3 := (tripR_iff hb (by omega) _ _ _ _ _).1 h1
    have h4 := (tripN_iff hb _ _ _ n (k + 1) (by omega)).1 h2
    simp only [Prod.mk.injEq] at e
    omega
theorem RT.tr_len (h : RT T S) (hb : TBd T) : S.tr.length = T.trips.length := by
  refine len_same h.nd (tripN_nodup hb _ _ (by omega)) (fun x => ?_)
  obtain ⟨r, c, t⟩ := x
  rw [h.tm, show T.trips = T.tripN 0 T.nr from rfl, tripN_iff hb _ _ _ _ _ (by omega)]
  constructor
  · rintro ⟨h1, h2⟩; exact ⟨by omega, h2⟩
  · rintro ⟨h1, h2⟩; exact ⟨by omega, h2⟩
theorem sumR_zero : ∀ n, sumR (fun _ => 0) n = 0
  | 0 => rfl
  | n + 1 => by simp only [sumR]; rw [sumR_zero n]
theorem len_filters (n : Nat) : ∀ (l : List (Nat × Nat × Nat × Nat)), (∀ x, x ∈ l → x.1 < n) → l.length = sumR (fun r => (l.filter (fun x => decide (x.1 = r))).length) n := by
  intro l
  induction l with
  | nil => intro _; simp [sumR_zero]
  | cons x l ih =>
    intro h
    rw [List.length_cons, ih (fun y hy => h y (List.mem_cons_of_mem _ hy))]
    symm
    refine sumR_set 1 ?_ (fun i hi => ?_) n (h x List.mem_cons_self)
    · rw [List.filter_cons_of_pos (by simp), List.length_cons]
    · rw [List.filter_cons_of_neg (by simp; omega)]
theorem spanN_len : ∀ n k, (T.spanN k n).length = sumR (fun i => (T.sp (k + i)).length) n := by
  intro n
  induction n with
  | zero => intro k; rfl
  | succ n ih =>
    intro k
    have hf : ∀ (g : Nat → Nat) n, sumR g (n + 1) = g 0 + sumR (fun i => g (i + 1)) n := by
      intro g n
      induction n with
      | zero => simp [sumR]
      | succ n ih => rw [show sumR g (n + 1 + 1) = sumR g (n + 1) + g (n + 1) from rfl, ih]; simp only [sumR]; omega
    rw [hf]
    simp only [TabS.spanN, List.length_append, List.length_map]
    rw [ih (k + 1)]
    rw [show (fun i => (T.sp (k + (i + 1))).length) = (fun i => (T.sp (k + 1 + i)).length) from funext fun i => by rw [show k + (i + 1) = k + 1 + i by omega]]
    rfl
theorem RT.sp_len (h : RT T S) : S.sp.length = T.spans.length := by
  rw [len_filters T.nr S.sp h.sr, show T.spans = T.spanN 0 T.nr from rfl, spanN_len]
  refine sumR_congr _ (fun r hr => ?_)
  rw [Nat.zero_add, ← h.sp r hr, List.length_map]
theorem RT.held (h : RT T S) (g : Fit T) : T.held = S.tr.length + S.sp.length := by
  rw [held_len g.con, h.tr_len g.bd, h.sp_len]
end
end Go.Proofs.Qxb6500717aGreat
