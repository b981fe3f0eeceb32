/-
  The count of what a table holds, and grid and plans in step: plain.
-/
import Derived.Test.Qxb6500717aGreatRes
namespace Go.Proofs.Qxb6500717aGreat
open Go.RowKit
set_option linter.unusedSimpArgs false
set_option linter.unusedVariables false

/-- How many of the first n slots are taken. -/
def cntS (f : Nat → Int) : Nat → Nat
  | 0 => 0
  | n + 1 => cntS f n + if f n = -1 then 0 else 1
def sumR (g : Nat → Nat) : Nat → Nat
  | 0 => 0
  | n + 1 => sumR g n + g n
theorem cntS_congr {f g : Nat → Int} : ∀ n, (∀ i, i < n → f i = g i) → cntS f n = cntS g n := by
  intro n
  induction n with
  | zero => intro _; rfl
  | succ n ih => intro h; simp only [cntS]; rw [ih (fun i hi => h i (by omega)), h n (by omega)]
theorem cntS_set {f g : Nat → Int} {s : Nat} (hs : f s = -1) (hg : g s ≠ -1) (he : ∀ i, i ≠ s → f i = g i) : ∀ n, s < n → cntS g n = cntS f n + 1 := by
  intro n
  induction n with
  | zero => intro h; omega
  | succ n ih =>
    intro h
    simp only [cntS]
    by_cases hn : s = n
    · subst hn
      rw [if_pos hs, if_neg hg, cntS_congr s (fun i hi => he i (by omega))]
    · rw [ih (by omega), he n (fun e => hn e.symm)]; omega
theorem sumR_congr {g h : Nat → Nat} : ∀ n, (∀ i, i < n → g i = h i) → sumR g n = sumR h n := by
  intro n
  induction n with
  | zero => intro _; rfl
  | succ n ih => intro he; simp only [sumR]; rw [ih (fun i hi => he i (by omega)), he n (by omega)]
theorem sumR_set {g h : Nat → Nat} {r : Nat} (d : Nat) (hr : h r = g r + d) (he : ∀ i, i ≠ r → g i = h i) : ∀ n, r < n → sumR h n = sumR g n + d := by
  intro n
  induction n with
  | zero => intro hn; omega
  | succ n ih =>
    intro hn
    simp only [sumR]
    by_cases e : r = n
    · subst e
      rw [hr, sumR_congr r (fun i hi => (he i (by omega)).symm)]; omega
    · rw [ih (by omega), he n (fun x => e x.symm)]; omega
theorem sumR_le (g : Nat → Nat) {r : Nat} : ∀ n, r < n → g r ≤ sumR g n := by
  intro n
  induction n with
  | zero => intro h; omega
  | succ n ih =>
    intro h
    simp only [sumR]
    by_cases e : r = n
    · subst e; omega
    · have := ih (by omega); omega
theorem cntS_pos {f : Nat → Int} {s : Nat} (hs : f s ≠ -1) : ∀ n, s < n → 1 ≤ cntS f n := by
  intro n
  induction n with
  | zero => intro h; omega
  | succ n ih =>
    intro h
    simp only [cntS]
    by_cases e : s = n
    · subst e; rw [if_neg hs]; omega
    · have := ih (by omega); omega

/-- What a robot holds. -/
def TabS.own (T : TabS) (r : Nat) : Nat := cntS (T.pl r) 256 + (T.sp r).length
/-- What all hold. -/
def TabS.cnt (T : TabS) : Nat := sumR T.own T.nr

/-- The count is right; the grid says what the plans say. -/
structure Con (T : TabS) : Prop where
  held : T.held = T.cnt
  gp : ∀ r s c : Nat, r < T.nr → s < 256 → T.pl r s = (c : Int) → T.gr (s * T.nc + c) = ((r + 1 : Nat) : Int)
  pg : ∀ r s c : Nat, s < 256 → c < T.nc → T.gr (s * T.nc + c) = ((r + 1 : Nat) : Int) → r < T.nr ∧ T.pl r s = (c : Int)

section
variable {T : TabS}
theorem Con.pos (h : Con T) {r s : Nat} (hr : r < T.nr) (hs : s < 256) (hp : T.pl r s ≠ -1) : 1 ≤ T.held := by
  rw [h.held]
  have h1 := cntS_pos hp 256 hs
  have h2 := sumR_le T.own T.nr hr
  unfold TabS.cnt
  unfold TabS.own at h2 ⊢
  omega

/-- Two places in the grid are one only if slot and cell are. -/
theorem gr_ix {n s c s' c' : Nat} (hc : c < n) (hc' : c' < n) (h : s * n + c = s' * n + c') : s = s' ∧ c = c' := by
  have hn : 0 < n := by omega
  have h1 := congrArg (· / n) h
  have h2 := congrArg (· % n) h
  simp only [Nat.mul_comm s n, Nat.mul_comm s' n, Nat.mul_add_div hn, Nat.div_eq_of_lt hc, Nat.div_eq_of_lt hc', Nat.mul_add_mod, Nat.mod_eq_of_lt hc, Nat.mod_eq_of_lt hc', Nat.add_zero] at h1 h2
  exact ⟨h1, h2⟩

theorem Con.put (h : Con T) {r c t : Nat} (hr : r < T.nr) (hc : c < T.nc) (hp : T.pl r (t % 256) = -1) (hg : T.gr (t % 256 * T.nc + c) = 0) : Con (T.put r c t) := by
  have hs : t % 256 < 256 := Nat.mod_lt _ (by omega)
  generalize hsl : t % 256 = s at *
  refine ⟨?_, fun r' s' c' hr' hs' he => ?_, fun r' s' c' hs' hc' he => ?_⟩
  · show T.held + 1 = sumR (T.put r c t).own T.nr
    rw [h.held]
    refine (sumR_set (r := r) 1 ?_ ?_ T.nr hr).symm
    · show cntS (upd2 T.pl r (t % 256) c r) 256 + (T.sp r).length = cntS (T.pl r) 256 + (T.sp r).length + 1
      rw [hsl, cntS_set (f := T.pl r) (g := upd2 T.pl r s c r) (s := s) hp (by simp [upd2]) (fun i hi => by simp [upd2, hi]) 256 hs]
      omega
    · intro i hi
      show cntS (T.pl i) 256 + (T.sp i).length = cntS (upd2 T.pl r (t % 256) c i) 256 + (T.sp i).length
      have := cntS_congr (f := T.pl i) (g := upd2 T.pl r (t % 256) c i) 256 (fun j _ => by simp [upd2, hi])
      omega
  · have he2 : upd2 T.pl r (t % 256) c r' s' = (c' : Int) := he
    show upd T.gr (t % 256 * T.nc + c) ((r + 1 : Nat) : Int) (s' * T.nc + c') = _
    rw [hsl] at he2 ⊢
    by_cases e : r' = r ∧ s' = s
    · obtain ⟨rfl, rfl⟩ := e
      simp [upd2] at he2
      have : c = c' := by omega
      subst this
      rw [upd_at]
    · have he3 : T.pl r' s' = (c' : Int) := by simpa [upd2, e] using he2
      have hg2 := h.gp r' s' c' hr' hs' he3
      rw [upd_ne _ _ (fun e2 => ?_)]
      · exact hg2
      · rw [e2] at hg2
        rw [hg] at hg2
        omega
  · have he2 : upd T.gr (t % 256 * T.nc + c) ((r + 1 : Nat) : Int) (s' * T.nc + c') = ((r' + 1 : Nat) : Int) := he
    show r' < T.nr ∧ upd2 T.pl r (t % 256) c r' s' = (c' : Int)
    rw [hsl] at he2 ⊢
    by_cases e : s' * T.nc + c' = s * T.nc + c
    · obtain ⟨rfl, rfl⟩ := gr_ix hc' hc e
      rw [upd_at] at he2
      have : r = r' := by omega
      subst this
      exact ⟨hr, by simp [upd2]⟩
    · rw [upd_ne _ _ e] at he2
      obtain ⟨g1, g2⟩ := h.pg r' s' c' hs' hc' he2
      refine ⟨g1, ?_⟩
      unfold upd2
      rw [if_neg (fun e2 => ?_)]
      · exact g2
      · rw [e2.1, e2.2, hp] at g2; omega

theorem Con.drop (h : Con T) {r s : Nat} (hr : r < T.nr) (hs : s < 256) (hb : TBd T) : Con (T.drop r s).2 := by
  unfold TabS.drop
  by_cases hp : T.pl r s = -1
  · rw [if_pos hp]; exact h
  · rw [if_neg hp]
    have hpb := hb.pl r s hr hs
    obtain ⟨c, hc⟩ : ∃ c : Nat, T.pl r s = c := ⟨(T.pl r s).toNat, by omega⟩
    have hcn : c < T.nc := by omega
    rw [hc, Int.toNat_natCast]
    have hpos := h.pos hr hs hp
    have hgc := h.gp r s c hr hs hc
    refine ⟨?_, fun r' s' c' hr' hs' he => ?_, fun r' s' c' hs' hc' he => ?_⟩
    · show T.held - 1 = sumR (fun i => cntS (upd2 T.pl r s (-1) i) 256 + (T.sp i).length) T.nr
      have h1 : T.cnt = sumR (fun i => cntS (upd2 T.pl r s (-1) i) 256 + (T.sp i).length) T.nr + 1 := by
        refine sumR_set (g := fun i => cntS (upd2 T.pl r s (-1) i) 256 + (T.sp i).length) (h := T.own) (r := r) 1 ?_ ?_ T.nr hr
        · show cntS (T.pl r) 256 + (T.sp r).length = cntS (upd2 T.pl r s (-1) r) 256 + (T.sp r).length + 1
          rw [cntS_set (f := upd2 T.pl r s (-1) r) (g := T.pl r) (s := s) (by simp [upd2]) hp (fun i hi => by simp [upd2, hi]) 256 hs]
          omega
        · intro i hi
          show cntS (upd2 T.pl r s (-1) i) 256 + (T.sp i).length = cntS (T.pl i) 256 + (T.sp i).length
          have := cntS_congr (f := T.pl i) (g := upd2 T.pl r s (-1) i) 256 (fun j _ => by simp [upd2, hi])
          omega
      rw [h.held]; omega
    · have he2 : upd2 T.pl r s (-1) r' s' = (c' : Int) := he
      show upd T.gr (s * T.nc + c) 0 (s' * T.nc + c') = _
      by_cases e : r' = r ∧ s' = s
      · rw [upd2, if_pos e] at he2; omega
      · have he3 : T.pl r' s' = (c' : Int) := by simpa [upd2, e] using he2
        have hc'n : c' < T.nc := by have := hb.pl r' s' hr' hs'; omega
        have hg2 := h.gp r' s' c' hr' hs' he3
        rw [upd_ne _ _ (fun e2 => ?_)]
        · exact hg2
        · obtain ⟨rfl, rfl⟩ := gr_ix hc'n hcn e2
          rw [hg2] at hgc
          exact e ⟨by omega, rfl⟩
    · have he2 : upd T.gr (s * T.nc + c) 0 (s' * T.nc + c') = ((r' + 1 : Nat) : Int) := he
      show r' < T.nr ∧ upd2 T.pl r s (-1) r' s' = (c' : Int)
      by_cases e : s' * T.nc + c' = s * T.nc + c
      · rw [e, upd_at] at he2; omega
      · rw [upd_ne _ _ e] at he2
        obtain ⟨g1, g2⟩ := h.pg r' s' c' hs' hc' he2
        refine ⟨g1, ?_⟩
        unfold upd2
        rw [if_neg (fun e2 => ?_)]
        · exact g2
        · rw [e2.1, e2.2, hc] at g2
          have : c = c' := by omega
          subst this
          exact e (by rw [e2.2])
end
end Go.Proofs.Qxb6500717aGreat
