/-
  What a table lists: how much, and in which order. Plain.
-/
import Derived.Test.Qxb6500717aGreatLst
namespace Go.Proofs.Qxb6500717aGreat
open Go.RowKit
set_option linter.unusedSimpArgs false
set_option linter.unusedVariables false

/-- How many of n slots from tick b on are taken. -/
def cntT (f : Nat → Int) (b : Nat) : Nat → Nat
  | 0 => 0
  | n + 1 => cntT f b n + if f ((b + n) % 256) = -1 then 0 else 1
theorem cntT_front (f : Nat → Int) (b : Nat) : ∀ n, cntT f b (n + 1) = (if f (b % 256) = -1 then 0 else 1) + cntT f (b + 1) n := by
  intro n
  induction n with
  | zero => simp [cntT]
  | succ n ih =>
    rw [show cntT f b (n + 1 + 1) = cntT f b (n + 1) + (if f ((b + (n + 1)) % 256) = -1 then 0 else 1) from rfl, ih]
    rw [show cntT f (b + 1) (n + 1) = cntT f (b + 1) n + (if f ((b + 1 + n) % 256) = -1 then 0 else 1) from rfl]
    rw [show b + (n + 1) = b + 1 + n by omega]
    omega
theorem cntT_zero (f : Nat → Int) : ∀ n, n ≤ 256 → cntT f 0 n = cntS f n := by
  intro n
  induction n with
  | zero => intro _; rfl
  | succ n ih =>
    intro h
    simp only [cntT, cntS]
    rw [ih (by omega), Nat.zero_add, Nat.mod_eq_of_lt (by omega)]
theorem cntT_all (f : Nat → Int) : ∀ b, cntT f b 256 = cntS f 256 := by
  intro b
  induction b with
  | zero => exact cntT_zero f 256 (Nat.le_refl _)
  | succ b ih =>
    have h1 := cntT_front f b 256
    rw [show cntT f b (256 + 1) = cntT f b 256 + (if f ((b + 256) % 256) = -1 then 0 else 1) from rfl, ih, Nat.add_mod_right] at h1
    omega
section
variable {T : TabS}
theorem tripR_len (r : Nat) : ∀ n t, (T.tripR r t n).length = cntT (T.pl r) t n := by
  intro n
  induction n with
  | zero => intro t; rfl
  | succ n ih =>
    intro t
    rw [cntT_front]
    simp only [TabS.tripR]
    split
    · rw [ih]; omega
    · rw [List.length_cons, ih]; omega
theorem lists_len : ∀ n k, (T.tripN k n).length + (T.spanN k n).length = sumR (fun i => T.own (k + i)) n := by
  intro n
  induction n with
  | zero => intro k; rfl
  | succ n ih =>
    intro k
    have hf : ∀ (g : Nat → Nat) n, sumR g (n + 1) = g 0 + sumR (fun i => g (i + 1)) n := by
      intro g n
      induction n with
      | zero => simp [sumR]
      | succ n ih => rw [show sumR g (n + 1 + 1) = sumR g (n + 1) + g (n + 1) from rfl, ih]; simp only [sumR]; omega
    rw [hf]
    simp only [TabS.tripN, TabS.spanN, List.length_append, List.length_map]
    have := ih (k + 1)
    rw [tripR_len, cntT_all]
    rw [show (fun i => T.own (k + (i + 1))) = (fun i => T.own (k + 1 + i)) from funext fun i => by rw [show k + (i + 1) = k + 1 + i by omega], ← this]
    rw [show T.own (k + 0) = cntS (T.pl k) 256 + (T.sp k).length from rfl]
    omega
theorem held_len (h : Con T) : T.held = T.trips.length + T.spans.length := by
  rw [h.held]
  unfold TabS.trips TabS.spans TabS.cnt
  rw [lists_len]
  simp only [Nat.zero_add]
theorem tripR_mem {r : Nat} {x : Nat × Nat × Nat} : ∀ n t, x ∈ T.tripR r t n → t ≤ x.2.2 ∧ x.2.2 < t + n := by
  intro n
  induction n with
  | zero => intro t h; simp [TabS.tripR] at h
  | succ n ih =>
    intro t h
    simp only [TabS.tripR] at h
    split at h
    · have := ih _ h; omega
    · rcases List.mem_cons.1 h with rfl | h
      · exact ⟨Nat.le_refl _, by simp only; omega⟩
      · have := ih _ h; omega
theorem tripN_mem {x : Nat × Nat × Nat} : ∀ n k, x ∈ T.tripN k n → T.base ≤ x.2.2 ∧ x.2.2 < T.base + 256 := by
  intro n
  induction n with
  | zero => intro k h; simp [TabS.tripN] at h
  | succ n ih =>
    intro k h
    simp only [TabS.tripN] at h
    rcases List.mem_append.1 h with h | h
    · exact tripR_mem _ _ h
    · exact ih _ h
theorem trips_mem {x : Nat × Nat × Nat} (h : x ∈ T.trips) : T.base ≤ x.2.2 ∧ x.2.2 < T.base + 256 := tripN_mem _ _ h
theorem spanN_mem {x : Nat × Nat × Nat × Nat} : ∀ n k, x ∈ T.spanN k n → (k ≤ x.1 ∧ x.1 < k + n) ∧ x.2 ∈ T.sp x.1 := by
  intro n
  induction n with
  | zero => intro k h; simp [TabS.spanN] at h
  | succ n ih =>
    intro k h
    simp only [TabS.spanN] at h
    rcases List.mem_append.1 h with h | h
    · obtain ⟨y, hy, rfl⟩ := List.mem_map.1 h
      exact ⟨⟨Nat.le_refl _, by simp only; omega⟩, hy⟩
    · have := ih _ h
      exact ⟨by omega, this.2⟩
theorem spans_mem (ho : Ord T) {x : Nat × Nat × Nat × Nat} (h : x ∈ T.spans) : T.base ≤ x.2.2.1 ∧ x.2.2.1 < x.2.2.2 := by
  obtain ⟨h1, h2⟩ := spanN_mem _ _ h
  exact (ho x.1 (by omega)).1 _ h2
theorem pw_weak {α : Type} {R U : α → α → Prop} (hRU : ∀ a b, R a b → U a b) {l : List α} (h : l.Pairwise R) : l.Pairwise U := by
  induction l with
  | nil => exact List.Pairwise.nil
  | cons a l ih =>
    have h1 := List.pairwise_cons.1 h
    exact List.pairwise_cons.2 ⟨fun b hb => hRU a b (h1.1 b hb), ih h1.2⟩
/-- Of two spans of one robot the later one follows. -/
theorem spanN_pair (ho : Ord T) : ∀ n k, k + n ≤ T.nr → (T.spanN k n).Pairwise (fun x y => x.1 = y.1 → x.2.2.2 ≤ y.2.2.1) := by
  intro n
  induction n with
  | zero => intro k _; exact List.Pairwise.nil
  | succ n ih =>
    intro k hk
    simp only [TabS.spanN]
    refine List.pairwise_append.2 ⟨?_, ih (k + 1) (by omega), fun x hx y hy e => ?_⟩
    · refine List.pairwise_map.2 (pw_weak (R := fun x y : Nat × Nat × Nat => x.2.2 ≤ y.2.1) ?_ (ho k (by omega)).2)
      intro a b h _
      exact h
    · obtain ⟨z, hz, rfl⟩ := List.mem_map.1 hx
      have := (spanN_mem _ _ hy).1
      simp only at e
      omega
theorem spans_pair (ho : Ord T) {i : Nat} {x y : Nat × Nat × Nat × Nat} (hx : T.spans[i]? = some x) (hy : T.spans[i + 1]? = some y) (e : x.1 = y.1) : x.2.2.2 ≤ y.2.2.1 := by
  have h := spanN_pair ho T.nr 0 (by omega)
  have h1 := (List.getElem?_eq_some_iff.1 hx)
  have h2 := (List.getElem?_eq_some_iff.1 hy)
  obtain ⟨l1, e1⟩ := h1
  obtain ⟨l2, e2⟩ := h2
  have := List.pairwise_iff_getElem.1 h i (i + 1) l1 l2 (by omega)
  unfold TabS.spans at e1 e2
  rw [e1, e2] at this
  exact this e
theorem tripN_len : ∀ n k, (T.tripN k n).length ≤ 256 * n := by
  intro n
  induction n with
  | zero => intro k; simp [TabS.tripN]
  | succ n ih =>
    intro k
    simp only [TabS.tripN, List.length_append]
    have h1 := ih (k + 1)
    have h2 : (T.tripR k T.base 256).length ≤ 256 := by
      have : ∀ m t, (T.tripR k t m).length ≤ m := by
        intro m
        induction m with
        | zero => intro t; simp [TabS.tripR]
        | succ m ihm =>
          intro t
          simp only [TabS.tripR]
          split
          · have := ihm (t + 1); omega
          · rw [List.length_cons]; have := ihm (t + 1); omega
      exact this 256 T.base
    omega
end
end Go.Proofs.Qxb6500717aGreat
