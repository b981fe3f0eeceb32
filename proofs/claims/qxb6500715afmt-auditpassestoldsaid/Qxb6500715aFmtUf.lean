/-
  A forest of groups, plain.
-/
import Derived.Test.Qxb6500715aFmtBase
namespace Go.Proofs.Qxb6500715aFmt
set_option linter.unusedVariables false
/-- How many of the first n meet p. -/
def cntB (p : Nat → Bool) : Nat → Nat
  | 0 => 0
  | n + 1 => cntB p n + if p n = true then 1 else 0
theorem cntB_congr {p q : Nat → Bool} : ∀ n, (∀ i, i < n → p i = q i) → cntB p n = cntB q n
  | 0, _ => rfl
  | n + 1, h => by rw [cntB, cntB, cntB_congr n (fun i hi => h i (by omega)), h n (by omega)]
theorem cntB_le (p : Nat → Bool) : ∀ n, cntB p n ≤ n
  | 0 => Nat.le_refl _
  | n + 1 => by
    have := cntB_le p n
    rw [cntB]
    split <;> omega
/-- One that met it does no more. -/
theorem cntB_less {p q : Nat → Bool} {s : Nat} (hp : p s = true) (hq : q s = false) (h : ∀ i, i ≠ s → q i = p i) : ∀ n, s < n → cntB q n + 1 = cntB p n
  | 0, hs => by omega
  | n + 1, hs => by
    rw [cntB, cntB]
    by_cases e : s = n
    · subst e
      rw [cntB_congr s (fun i hi => h i (by omega)), hp, hq]
      simp
    · have := cntB_less hp hq h n (by omega)
      rw [h n (fun x => e x.symm)]
      omega
theorem cntB_all {p : Nat → Bool} : ∀ n, (∀ i, i < n → p i = true) → cntB p n = n
  | 0, _ => rfl
  | n + 1, h => by rw [cntB, cntB_all n (fun i hi => h i (by omega)), h n (by omega)]; rfl
theorem cntB_none {p : Nat → Bool} : ∀ n, (∀ i, i < n → p i = false) → cntB p n = 0
  | 0, _ => rfl
  | n + 1, h => by rw [cntB, cntB_none n (fun i hi => h i (by omega)), h n (by omega)]; rfl
/-- Exactly one meets it. -/
theorem cntB_one {p : Nat → Bool} {s : Nat} (hs : p s = true) (h : ∀ i, i ≠ s → p i = false) : ∀ n, s < n → cntB p n = 1
  | 0, h0 => by omega
  | n + 1, h0 => by
    rw [cntB]
    by_cases e : s = n
    · subst e
      rw [cntB_none s (fun i hi => h i (by omega)), hs]
      rfl
    · rw [cntB_one hs h n (by omega), h n (fun x => e x.symm)]
      rfl
/-- p: the parents; rt: the roots; r: what grows along the parents. -/
structure UF (n : Nat) (p rt r : Nat → Nat) (R : Nat) : Prop where
  lt : ∀ x, x < n → p x < n
  rl : ∀ x, x < n → rt x < n
  rr : ∀ x, x < n → p (rt x) = rt x
  rp : ∀ x, x < n → rt (p x) = rt x
  rx : ∀ x, x < n → p x = x → rt x = x
  up : ∀ x, x < n → p x ≠ x → r x < r (p x)
  bd : ∀ x, x < n → r x ≤ R
def setp (p : Nat → Nat) (x y : Nat) : Nat → Nat := fun i => if i = x then y else p i
theorem setp_at (p : Nat → Nat) (x y : Nat) : setp p x y x = y := by simp [setp]
theorem setp_ne (p : Nat → Nat) {x i : Nat} (y : Nat) (h : i ≠ x) : setp p x y i = p i := by simp [setp, h]
theorem UF.init (n : Nat) : UF n (fun x => x) (fun x => x) (fun _ => 0) 0 :=
  ⟨fun x h => h, fun x h => h, fun x h => rfl, fun x h => rfl, fun x h _ => rfl, fun x h e => absurd rfl e, fun x h => Nat.le_refl _⟩
section
variable {n : Nat} {p rt r : Nat → Nat} {R : Nat}
theorem UF.root (h : UF n p rt r R) {x : Nat} (hx : x < n) : rt (rt x) = rt x := h.rx _ (h.rl x hx) (h.rr x hx)
/-- A step of find: the grandparent becomes the parent. -/
theorem UF.half (h : UF n p rt r R) {x : Nat} (hx : x < n) (hp : p x ≠ x) : UF n (setp p x (p (p x))) rt r R := by
  have hup : r x < r (p (p x)) := by
    have h1 := h.up x hx hp
    by_cases e : p (p x) = p x
    · rw [e]; exact h1
    · have := h.up (p x) (h.lt x hx) e
      omega
  have hrt : ∀ y, y < n → rt y ≠ x := fun y hy e => hp (by have := h.rr y hy; rw [e] at this; exact this)
  refine ⟨fun y hy => ?_, h.rl, fun y hy => ?_, fun y hy => ?_, fun y hy hpy => ?_, fun y hy hpy => ?_, h.bd⟩
  · by_cases e : y = x
    · subst e; rw [setp_at]; exact h.lt _ (h.lt _ hx)
    · rw [setp_ne _ _ e]; exact h.lt y hy
  · rw [setp_ne _ _ (hrt y hy)]; exact h.rr y hy
  · by_cases e : y = x
    · subst e; rw [setp_at, h.rp _ (h.lt _ hx), h.rp _ hx]
    · rw [setp_ne _ _ e]; exact h.rp y hy
  · by_cases e : y = x
    · subst e
      rw [setp_at] at hpy
      rw [hpy] at hup
      omega
    · rw [setp_ne _ _ e] at hpy; exact h.rx y hy hpy
  · by_cases e : y = x
    · subst e; rw [setp_at]; exact hup
    · rw [setp_ne _ _ e] at hpy ⊢; exact h.up y hy hpy
/-- The number of groups. -/
def grp (p : Nat → Nat) (n : Nat) : Nat := cntB (fun x => decide (p x = x)) n
theorem UF.half_grp (h : UF n p rt r R) {x : Nat} (hx : x < n) (hp : p x ≠ x) : grp (setp p x (p (p x))) n = grp p n := by
  have h2 := (h.half hx hp).rx x hx
  refine cntB_congr n (fun i hi => ?_)
  by_cases e : i = x
  · subst e
    rw [setp_at]
    have e1 : p (p i) ≠ i := fun e => by
      rw [setp_at] at h2
      have h3 := h2 e
      have h4 := h.rr i hx
      rw [h3] at h4
      exact hp h4
    simp [e1, hp]
  · rw [setp_ne _ _ e]
/-- Two roots are joined. -/
def jrt (rt : Nat → Nat) (a b : Nat) : Nat → Nat := fun y => if rt y = b then a else rt y
theorem UF.join (h : UF n p rt r R) {a b : Nat} (ha : a < n) (hb : b < n) (pa : p a = a) (pb : p b = b) (hab : a ≠ b) : UF n (setp p b a) (jrt rt a b) (fun y => if y = a then max (r a) (r b + 1) else r y) (R + 1) := by
  have ra := h.rx a ha pa
  have rb := h.rx b hb pb
  refine ⟨fun y hy => ?_, fun y hy => ?_, fun y hy => ?_, fun y hy => ?_, fun y hy hpy => ?_, fun y hy hpy => ?_, fun y hy => ?_⟩
  · by_cases e : y = b
    · subst e; rw [setp_at]; exact ha
    · rw [setp_ne _ _ e]; exact h.lt y hy
  · unfold jrt; split
    · exact ha
    · exact h.rl y hy
  · unfold jrt; split
    · rw [setp_ne _ _ hab]; exact pa
    · rename_i e
      rw [setp_ne _ _ e]; exact h.rr y hy
  · by_cases e : y = b
    · subst e
      rw [setp_at]
      unfold jrt
      rw [ra, rb, if_neg hab, if_pos rfl]
    · rw [setp_ne _ _ e]
      unfold jrt
      rw [h.rp y hy]
  · by_cases e : y = b
    · subst e; rw [setp_at] at hpy; exact absurd hpy hab
    · rw [setp_ne _ _ e] at hpy
      have := h.rx y hy hpy
      unfold jrt
      rw [this, if_neg e]
  · by_cases e : y = b
    · rw [e, setp_at]
      rw [if_neg (fun x => hab x.symm), if_pos rfl]
      omega
    · rw [setp_ne _ _ e] at hpy ⊢
      have h1 := h.up y hy hpy
      have e2 : y ≠ a := fun x => hpy (by rw [x]; exact pa)
      show (if y = a then _ else _) < (if p y = a then _ else _)
      rw [if_neg e2]
      split
      · rename_i e3
        rw [e3] at h1
        omega
      · exact h1
  · have h1 := h.bd y hy
    have h2 := h.bd a ha
    have h3 := h.bd b hb
    show (if y = a then _ else _) ≤ _
    split <;> omega
theorem join_grp {a b : Nat} (hb : b < n) (pb : p b = b) (hab : a ≠ b) : grp (setp p b a) n + 1 = grp p n := by
  unfold grp
  refine cntB_less (s := b) (by simp [pb]) (by simp [setp_at, hab]) (fun i hi => ?_) n hb
  rw [setp_ne _ _ hi]
end
end Go.Proofs.Qxb6500715aFmt
