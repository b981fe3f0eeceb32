/-
  What the queries foretell: plain.
-/
import Derived.Test.Qxb6500717aGreatNoc4
import Derived.Test.Qxb6500717aGreatRem
namespace Go.Proofs.Qxb6500717aGreat
open Go.RowKit
set_option linter.unusedSimpArgs false
set_option linter.unusedVariables false

/-! how much a truncation removes -/
section
variable {T : TabS}
theorem dropN_cnt (r : Nat) : ∀ n t (T' : TabS), n ≤ 256 → (∀ u, t ≤ u → u < t + n → T'.pl r (u % 256) = T.pl r (u % 256)) → (TabS.dropN r t n T').1 = T.cntP r t n := by
  intro n
  induction n with
  | zero => intro t T' _ _; rfl
  | succ n ih =>
    intro t T' hn h
    simp only [TabS.dropN, TabS.cntP]
    rw [ih (t + 1) (T'.drop r (t % 256)).2 (by omega) (fun u h1 h2 => by rw [TabS.drop_pl, if_neg (by omega)]; exact h u (by omega) (by omega))]
    have h0 := h t (Nat.le_refl _) (by omega)
    have e : (T'.drop r (t % 256)).1 = !decide (T.pl r (t % 256) = -1) := by
      unfold TabS.drop
      rw [h0]
      split
      · rename_i h1; simp [h1]
      · rename_i h1; simp [h1]
    rw [e]
    by_cases h1 : T.pl r (t % 256) = -1 <;> simp [h1]
theorem spFrom_app (l : List (Nat × Nat × Nat)) (x : Nat × Nat × Nat) (t : Nat) : spFrom (l ++ [x]) t = spFrom l t + if t ≤ x.2.1 then 1 else 0 := by
  induction l with
  | nil => simp [spFrom]
  | cons y l ih => rw [List.cons_append]; simp only [spFrom]; rw [ih]; omega
theorem spFrom_zero {l : List (Nat × Nat × Nat)} {t : Nat} (h : ∀ x, x ∈ l → x.2.1 < t) : spFrom l t = 0 := by
  induction l with
  | nil => rfl
  | cons y l ih =>
    simp only [spFrom]
    rw [ih (fun x hx => h x (by simp [hx])), if_neg (by have := h y (by simp); omega)]
theorem pop_cnt {b : Nat} {l : List (Nat × Nat × Nat)} (ho : SOrd b l) (t : Nat) : ∀ j, j ≤ l.length → j - popN l t j = spFrom (l.take j) t := by
  intro j
  induction j with
  | zero => intro _; rfl
  | succ j ih =>
    intro hj
    have hlt : j < l.length := by omega
    have hx : l[j]? = some l[j] := List.getElem?_eq_getElem hlt
    have hle := popN_le l t j
    have h1 := ih (by omega)
    rw [List.take_add_one, hx]
    simp only [Option.toList_some]
    rw [spFrom_app, ← h1]
    have e : popN l t (j + 1) = match l[j]? with
      | some x => if t ≤ x.2.1 then popN l t j else j + 1
      | none => j + 1 := rfl
    rw [e, hx]
    simp only
    split
    · omega
    · rename_i hn
      have : spFrom (l.take j) t = 0 := spFrom_zero (fun x hxm => by
        obtain ⟨i, hi, e⟩ := List.getElem_of_mem hxm
        rw [List.length_take] at hi
        rw [List.getElem_take] at e
        have hp := List.pairwise_iff_getElem.1 ho.2 i j (by omega) hlt (by omega)
        have hb := (ho.1 x (List.mem_of_mem_take hxm)).2
        rw [e] at hp
        omega)
      omega
theorem trunc_cnt (ho : Ord T) {r t : Nat} (hr : r < T.nr) (ht : T.base ≤ t) : (T.trunc r t).1 = T.remov r t := by
  have hf := TabS.dropN_fix r (T.base + 256 - t) t T
  have e1 : (T.trunc r t).1 = (TabS.dropN r t (T.base + 256 - t) T).1 + ((T.sp r).length - popN (T.sp r) t (T.sp r).length) := by
    simp only [TabS.trunc]
    rw [hf.1]
  rw [e1, dropN_cnt (T := T) r _ t T (by omega) (fun _ _ _ => rfl), pop_cnt (ho r hr) t _ (Nat.le_refl _), List.take_length]
  rfl
end

/-- T2 is T without what robot r holds. -/
structure Gone (T T2 : TabS) (r : Nat) : Prop where
  base : T2.base = T.base
  nr : T2.nr = T.nr
  nc : T2.nc = T.nc
  pl : ∀ q, q ≠ r → T2.pl q = T.pl q
  sp : ∀ q, q ≠ r → T2.sp q = T.sp q
  plr : ∀ u, T.base ≤ u → u < T.base + 256 → T2.pl r (u % 256) = -1
  spr : T2.sp r = []
theorem popN_zero {l : List (Nat × Nat × Nat)} {t : Nat} (h : ∀ x, x ∈ l → t ≤ x.2.1) : ∀ j, j ≤ l.length → popN l t j = 0 := by
  intro j
  induction j with
  | zero => intro _; rfl
  | succ j ih =>
    intro hj
    have hlt : j < l.length := by omega
    unfold popN
    rw [List.getElem?_eq_getElem hlt]
    simp only
    rw [if_pos (h _ (List.getElem_mem hlt))]
    exact ih (by omega)
theorem trunc_pl {T : TabS} {r t q : Nat} (hq : q ≠ r) : (T.trunc r t).2.pl q = T.pl q := by
  funext s
  rcases TabS.dropN_pl r (T.base + 256 - t) t T q s with h | h
  · exact h
  · exact absurd h.1 hq
theorem trunc_sp {T : TabS} {r t : Nat} : (T.trunc r t).2.sp = upd T.sp r (cutL ((T.sp r).take (popN (T.sp r) t (T.sp r).length)) t) := by
  have hf := TabS.dropN_fix r (T.base + 256 - t) t T
  simp only [TabS.trunc]
  rw [hf.1]
theorem trunc_fix {T : TabS} {r t : Nat} : (T.trunc r t).2.base = T.base ∧ (T.trunc r t).2.nr = T.nr ∧ (T.trunc r t).2.nc = T.nc := by
  have hf := TabS.dropN_fix r (T.base + 256 - t) t T
  exact ⟨hf.2.1, hf.2.2.1, hf.2.2.2.1⟩
theorem Gone.mk2 {T : TabS} (ho : Ord T) {r t : Nat} (hr : r < T.nr) : Gone T ((T.trunc r t).2.trunc r T.base).2 r := by
  have f1 := trunc_fix (T := T) (r := r) (t := t)
  have f2 := trunc_fix (T := (T.trunc r t).2) (r := r) (t := T.base)
  have ho1 := ho.trunc r t
  refine ⟨by rw [f2.1, f1.1], by rw [f2.2.1, f1.2.1], by rw [f2.2.2, f1.2.2], fun q hq => by rw [trunc_pl hq, trunc_pl hq], fun q hq => by rw [trunc_sp, upd_ne _ _ hq, trunc_sp, upd_ne _ _ hq], fun u h1 h2 => ?_, ?_⟩
  · have := TabS.dropN_gone r ((T.trunc r t).2.base + 256 - T.base) T.base (T.trunc r t).2 u h1 (by rw [f1.1]; omega)
    exact this
  · rw [trunc_sp, upd_at]
    have h := ho1 r (by rw [f1.2.1]; exact hr)
    rw [f1.1] at h
    rw [popN_zero (fun x hx => (h.1 x hx).1) _ (Nat.le_refl _)]
    rfl

section
variable {T T2 : TabS} {r : Nat}
theorem Gone.at (h : Gone T T2 r) (q u : Nat) (hu : T.base ≤ u) : T2.at q u = if q = r then -1 else T.at q u := by
  by_cases e : q = r
  · subst e
    rw [if_pos rfl]
    by_cases hw : T.base ≤ u ∧ u < T.base + 256
    · rw [TabS.at_win (T := T2) (by rw [h.base]; exact hw), h.plr u hw.1 hw.2, if_neg (by simp), h.spr]
      rfl
    · rw [TabS.at_out (T := T2) (by rw [h.base]; exact hw), h.spr]
      rfl
  · rw [if_neg e]
    unfold TabS.at TabS.win
    rw [h.pl q e, h.sp q e, h.base]
/-- Good tables. -/
structure Fit (T : TabS) : Prop where
  bd : TBd T
  con : Con T
  ord : Ord T
  noc : Noc T
theorem Fit.hold_iff (g : Fit T) {c u : Nat} (hc : c < T.nc) (hu : T.base ≤ u) (q : Nat) : T.hold c u = (q : Int) ↔ q < T.nr ∧ T.at q u = (c : Int) :=
  ⟨fun h => TabS.hold_at g.bd g.con g.ord g.noc hc hu h, fun h => TabS.at_hold g.bd g.con g.ord g.noc hc hu h.1 h.2⟩
theorem Fit.hold_no (g : Fit T) {c u : Nat} (hc : c < T.nc) (hu : T.base ≤ u) : T.hold c u = -1 ↔ ∀ q, q < T.nr → T.at q u ≠ (c : Int) := by
  constructor
  · intro h q hq; exact TabS.hold_no g.bd g.con g.ord hc hu h hq
  · intro h
    have h1 := TabS.hold_nn g.bd (t := u) hc
    by_cases h2 : T.hold c u = -1
    · exact h2
    · obtain ⟨q, hq⟩ := Int.eq_ofNat_of_zero_le (show 0 ≤ T.hold c u by omega)
      obtain ⟨h3, h4⟩ := (g.hold_iff hc hu q).1 hq
      exact absurd h4 (h q h3)
/-- In the copy a cell is held by none iff at most r holds it in the table. -/
theorem Gone.hold (h : Gone T T2 r) (g : Fit T) (g2 : Fit T2) {c u : Nat} (hc : c < T.nc) (hu : T.base ≤ u) : T2.hold c u = -1 ↔ (T.hold c u = -1 ∨ T.hold c u = (r : Int)) := by
  rw [g2.hold_no (by rw [h.nc]; exact hc) (by rw [h.base]; exact hu), h.nr]
  constructor
  · intro h1
    have h2 := TabS.hold_nn g.bd (t := u) hc
    by_cases h3 : T.hold c u = -1
    · exact Or.inl h3
    · obtain ⟨q, hq⟩ := Int.eq_ofNat_of_zero_le (show 0 ≤ T.hold c u by omega)
      obtain ⟨h4, h5⟩ := (g.hold_iff hc hu q).1 hq
      by_cases e : q = r
      · right; rw [hq, e]
      · have := h1 q h4
        rw [h.at q u hu, if_neg e] at this
        exact absurd h5 this
  · intro h1 q hq h2
    rw [h.at q u hu] at h2
    by_cases e : q = r
    · rw [if_pos e] at h2; omega
    · rw [if_neg e] at h2
      have := (g.hold_iff hc hu q).2 ⟨hq, h2⟩
      omega
theorem place_codes (T : TabS) (r c t : Int) : T.place r c t = 2 ∨ T.place r c t = 3 ∨ T.place r c t = 4 ∨ T.place r c t = 0 := by
  unfold TabS.place
  split
  · exact Or.inl rfl
  · split
    · exact Or.inr (Or.inl rfl)
    · split
      · exact Or.inr (Or.inr (Or.inl rfl))
      · exact Or.inr (Or.inr (Or.inr rfl))
/-- FreeCell. -/
theorem fore9 (h : Gone T T2 r) (g : Fit T) (g2 : Fit T2) (hr : r < T.nr) (B C : Int) (hin : (T2.reserve r B C).1 ≠ 2 ∧ (T2.reserve r B C).1 ≠ 3 ∧ (T2.reserve r B C).1 ≠ 4) :
    T.freeC r B C = decide ((T2.reserve r B C).1 ≠ 6) := by
  unfold TabS.reserve at hin ⊢
  by_cases hp : T2.place r B C ≠ 0
  · rw [if_pos hp] at hin
    rcases place_codes T2 r B C with e | e | e | e <;> simp only [e] at hin hp <;> omega
  rw [if_neg hp]
  obtain ⟨hr2, hb, hc⟩ := TabS.place_zero (Decidable.not_not.1 hp)
  rw [h.nc] at hb
  rw [h.base] at hc
  obtain ⟨bn, rfl⟩ := Int.eq_ofNat_of_zero_le hb.1
  have hbase := g.bd.base
  obtain ⟨cn, rfl⟩ := Int.eq_ofNat_of_zero_le (show 0 ≤ C by omega)
  have ha : T2.at r (cn : Int) = -1 := by rw [h.at r cn (by omega), if_pos rfl]
  simp only [Int.toNat_natCast]
  rw [if_neg (by rw [ha]; simp)]
  unfold TabS.freeC
  rw [if_pos ⟨⟨by omega, by omega⟩, ⟨by omega, by omega⟩, by omega, by omega⟩]
  simp only [Int.toNat_natCast]
  have hk := h.hold g g2 (c := bn) (u := cn) (by omega) (by omega)
  by_cases h6 : T2.hold bn (cn : Int) ≠ -1
  · rw [if_pos h6]
    have : ¬ (T.hold bn (cn : Int) = -1 ∨ T.hold bn (cn : Int) = (r : Int)) := fun hh => h6 (hk.2 hh)
    simp [this]
  · rw [if_neg h6]
    have : T.hold bn (cn : Int) = -1 ∨ T.hold bn (cn : Int) = (r : Int) := hk.1 (Decidable.not_not.1 h6)
    rw [decide_eq_true this]
    split
    · rfl
    · split <;> rfl
/-- FreeFrom. -/
theorem Gone.free (h : Gone T T2 r) (g : Fit T) (g2 : Fit T2) {c t : Nat} (hc : c < T.nc) (ht : T.base ≤ t) : T2.free r c t = T.free r c t := by
  have key : ∀ n u, t ≤ u → u + n = T.base + 256 ∨ n = 0 → T2.anyGr r c u n = T.anyGr r c u n := by
    intro n
    induction n with
    | zero => intro u _ _; rfl
    | succ n ih =>
      intro u hu hn
      unfold TabS.anyGr
      rw [h.nc]
      have hs : u % 256 < 256 := Nat.mod_lt _ (by omega)
      have hix : u % 256 * T.nc + c < 256 * T.nc := by
        have := Nat.mul_le_mul_right T.nc (show u % 256 + 1 ≤ 256 by omega)
        rw [Nat.add_mul] at this; omega
      have iff : (T2.gr (u % 256 * T.nc + c) ≠ 0 ∧ T2.gr (u % 256 * T.nc + c) - 1 ≠ r) ↔ (T.gr (u % 256 * T.nc + c) ≠ 0 ∧ T.gr (u % 256 * T.nc + c) - 1 ≠ r) := by
        have b1 := (g.bd.gr _ hix).1
        have b2 := (g2.bd.gr (u % 256 * T.nc + c) (by rw [h.nc]; exact hix)).1
        constructor
        · rintro ⟨h1, h2⟩
          obtain ⟨q, hq⟩ := Int.eq_ofNat_of_zero_le (show 0 ≤ T2.gr (u % 256 * T.nc + c) - 1 by omega)
          have h3 := g2.con.pg q (u % 256) c hs (by rw [h.nc]; exact hc) (by rw [h.nc]; omega)
          have hne : q ≠ r := by omega
          rw [h.nr, h.pl q hne] at h3
          have h4 := g.con.gp q (u % 256) c h3.1 hs h3.2
          omega
        · rintro ⟨h1, h2⟩
          obtain ⟨q, hq⟩ := Int.eq_ofNat_of_zero_le (show 0 ≤ T.gr (u % 256 * T.nc + c) - 1 by omega)
          have h3 := g.con.pg q (u % 256) c hs hc (by omega)
          have hne : q ≠ r := by omega
          have h4 := g2.con.gp q (u % 256) c (by rw [h.nr]; exact h3.1) hs (by rw [h.pl q hne]; exact h3.2)
          rw [h.nc] at h4
          omega
      by_cases hh : T.gr (u % 256 * T.nc + c) ≠ 0 ∧ T.gr (u % 256 * T.nc + c) - 1 ≠ r
      · rw [if_pos hh, if_pos (iff.2 hh)]
      · rw [if_neg hh, if_neg (fun x => hh (iff.1 x))]
        exact ih (u + 1) (by omega) (by omega)
  have late : ∀ n k, T2.late r c t k n = T.late r c t k n := by
    intro n
    induction n with
    | zero => intro k; rfl
    | succ n ih =>
      intro k
      unfold TabS.late
      rw [ih (k + 1)]
      by_cases e : k = r
      · rw [if_neg (fun x => x.1 e), if_neg (fun x => x.1 e)]
      · rw [h.sp k e]
  unfold TabS.free
  rw [h.base, h.nr, late, key (T.base + 256 - t) t (Nat.le_refl _) (by omega)]
theorem Gone.busy (h : Gone T T2 r) {t : Nat} (ht : T.base ≤ t) : T2.busy r t = false := by
  have key : ∀ n u, T.base ≤ u → u + n = T.base + 256 ∨ n = 0 → T2.anyPl r u n = false := by
    intro n
    induction n with
    | zero => intro u _ _; rfl
    | succ n ih =>
      intro u hu hn
      unfold TabS.anyPl
      rw [if_pos (h.plr u hu (by omega))]
      exact ih (u + 1) (by omega) (by omega)
  unfold TabS.busy
  rw [h.base, key (T.base + 256 - t) t ht (by omega), h.spr]
  rfl
theorem fore11 (h : Gone T T2 r) (g : Fit T) (g2 : Fit T2) (hr : r < T.nr) (B C : Int) (hin : (T2.stand r B C).1 ≠ 2 ∧ (T2.stand r B C).1 ≠ 3 ∧ (T2.stand r B C).1 ≠ 4) :
    T.freeF r B C = decide ((T2.stand r B C).1 ≠ 6) := by
  unfold TabS.stand at hin ⊢
  by_cases hp : T2.place r B C ≠ 0
  · rw [if_pos hp] at hin
    rcases place_codes T2 r B C with e | e | e | e <;> simp only [e] at hin hp <;> omega
  rw [if_neg hp]
  obtain ⟨hr2, hb, hc⟩ := TabS.place_zero (Decidable.not_not.1 hp)
  rw [h.nc] at hb
  rw [h.base] at hc
  obtain ⟨bn, rfl⟩ := Int.eq_ofNat_of_zero_le hb.1
  have hbase := g.bd.base
  obtain ⟨cn, rfl⟩ := Int.eq_ofNat_of_zero_le (show 0 ≤ C by omega)
  simp only [Int.toNat_natCast]
  rw [if_neg (by rw [h.busy (by omega)]; simp)]
  unfold TabS.freeF
  rw [if_pos ⟨⟨by omega, by omega⟩, ⟨by omega, by omega⟩, by omega, by omega⟩]
  simp only [Int.toNat_natCast]
  rw [h.free g g2 (by omega) (by omega)]
  cases hf : T.free r bn cn with
  | false => simp
  | true =>
    simp only [Bool.true_eq_false, if_false]
    split
    · rfl
    · split <;> rfl
theorem Fit.reserve (g : Fit T) (a c t : Int) : Fit (T.reserve a c t).2 := ⟨g.bd.reserve _ _ _, g.con.reserve g.bd _ _ _, g.ord.reserve _ _ _, g.noc.reserve g.bd g.con g.ord _ _ _⟩
/-- FreeMove. -/
theorem fore10 (h : Gone T T2 r) (g : Fit T) (g2 : Fit T2) (hr : r < T.nr) (B C D : Int) (h0 : (T2.reserve r B C).1 = 0)
    (hin : ((T2.reserve r B C).2.reserve r D (C + 1)).1 ≠ 2 ∧ ((T2.reserve r B C).2.reserve r D (C + 1)).1 ≠ 3 ∧ ((T2.reserve r B C).2.reserve r D (C + 1)).1 ≠ 4) :
    T.freeM r B D C = decide (((T2.reserve r B C).2.reserve r D (C + 1)).1 ≠ 6 ∧ ((T2.reserve r B C).2.reserve r D (C + 1)).1 ≠ 7) := by
  have g3 := g2.reserve r B C
  obtain ⟨rn, bn, cn, e1, rfl, rfl, hr2, hbn, hcn, -, -, -, -, e⟩ := TabS.reserve_yes h0
  obtain rfl : r = rn := by omega
  rw [e] at hin g3 ⊢
  generalize hT3 : T2.put r bn cn = T3 at hin g3 ⊢
  have b3 : T3.base = T.base := by rw [← hT3]; exact h.base
  have n3 : T3.nr = T.nr := by rw [← hT3]; exact h.nr
  have c3 : T3.nc = T.nc := by rw [← hT3]; exact h.nc
  rw [h.nc] at hbn
  rw [h.base] at hcn
  have A3 : ∀ q u : Nat, T.base ≤ u → T3.at q u = if q = r then (if u = cn then (bn : Int) else -1) else T.at q u := by
    intro q u hu
    rw [← hT3, TabS.at_put (by rw [h.base]; exact hcn) q u (by rw [h.base]; exact hu), h.at q u hu]
    by_cases e1 : q = r
    · by_cases e2 : u = cn
      · rw [if_pos ⟨e1, e2⟩, if_pos e1, if_pos e2]
      · rw [if_neg (fun x => e2 x.2), if_pos e1, if_pos e1, if_neg e2]
    · rw [if_neg (fun x => e1 x.1), if_neg e1, if_neg e1]
  have hbase := g.bd.base
  have e2 : ((cn : Int) + 1) = ((cn + 1 : Nat) : Int) := by omega
  rw [e2] at hin ⊢
  unfold TabS.reserve at hin ⊢
  by_cases hp : T3.place r D ((cn + 1 : Nat) : Int) ≠ 0
  · rw [if_pos hp] at hin
    rcases place_codes T3 r D ((cn + 1 : Nat) : Int) with e | e | e | e <;> simp only [e] at hin hp <;> omega
  rw [if_neg hp]
  obtain ⟨-, hd, hc⟩ := TabS.place_zero (Decidable.not_not.1 hp)
  rw [c3] at hd
  rw [b3] at hc
  obtain ⟨dn, rfl⟩ := Int.eq_ofNat_of_zero_le hd.1
  have hdn : dn < T.nc := by omega
  simp only [Int.toNat_natCast]
  have ha : T3.at r ((cn + 1 : Nat) : Int) = -1 := by rw [A3 r (cn + 1) (by omega), if_pos rfl, if_neg (by omega)]
  rw [if_neg (by rw [ha]; simp)]
  -- the cell at the next tick
  have hk : T3.hold dn ((cn + 1 : Nat) : Int) = -1 ↔ (T.hold dn ((cn + 1 : Nat) : Int) = -1 ∨ T.hold dn ((cn + 1 : Nat) : Int) = (r : Int)) := by
    rw [← h.hold g g2 hdn (by omega), g3.hold_no (by rw [c3]; exact hdn) (by rw [b3]; omega), g2.hold_no (by rw [h.nc]; exact hdn) (by rw [h.base]; omega), n3, h.nr]
    have : ∀ q, T3.at q ((cn + 1 : Nat) : Int) = T2.at q ((cn + 1 : Nat) : Int) := fun q => by
      rw [A3 q (cn + 1) (by omega), h.at q (cn + 1) (by omega)]
      by_cases eq : q = r
      · rw [if_pos eq, if_pos eq, if_neg (by omega)]
      · rw [if_neg eq, if_neg eq]
    constructor
    · intro h1 q hq; rw [← this q]; exact h1 q hq
    · intro h1 q hq; rw [this q]; exact h1 q hq
  -- the way
  have hat3 : T3.at r (((cn + 1 : Nat) : Int) - 1) = (bn : Int) := by
    rw [show ((cn + 1 : Nat) : Int) - 1 = (cn : Int) by omega, A3 r cn (by omega), if_pos rfl, if_pos rfl]
  have hat4 : T3.at r (((cn + 1 : Nat) : Int) + 1) = -1 := by
    rw [show ((cn + 1 : Nat) : Int) + 1 = ((cn + 2 : Nat) : Int) by omega, A3 r (cn + 2) (by omega), if_pos rfl, if_neg (by omega)]
  have hsw : T3.swaps (r : Int) bn dn (cn : Int) = T.swaps (r : Int) bn dn (cn : Int) := by
    unfold TabS.swaps
    by_cases ebd : bn = dn
    · rw [if_pos ebd, if_pos ebd]
    · rw [if_neg ebd, if_neg ebd, e2]
      have oth : ∀ q u c : Nat, c < T.nc → T.base ≤ u → q ≠ r → (T3.hold c u = (q : Int) ↔ T.hold c u = (q : Int)) := by
        intro q u c hc1 hu1 hq
        rw [g3.hold_iff (by rw [c3]; exact hc1) (by rw [b3]; exact hu1), g.hold_iff hc1 hu1, n3, A3 q u hu1, if_neg hq]
      refine decide_eq_decide.2 ⟨?_, ?_⟩
      · rintro ⟨h1, h2, h3⟩
        have hnn := TabS.hold_nn g3.bd (t := cn) (show dn < T3.nc by rw [c3]; exact hdn)
        obtain ⟨q, hq⟩ := Int.eq_ofNat_of_zero_le (show 0 ≤ T3.hold dn (cn : Int) by omega)
        have hqr : q ≠ r := by omega
        have h4 := (oth q cn dn hdn (by omega) hqr).1 hq
        have h5 := (oth q (cn + 1) bn hbn (by omega) hqr).1 (by rw [h3]; exact hq)
        exact ⟨by omega, by omega, by omega⟩
      · rintro ⟨h1, h2, h3⟩
        have hnn := TabS.hold_nn g.bd (t := cn) hdn
        obtain ⟨q, hq⟩ := Int.eq_ofNat_of_zero_le (show 0 ≤ T.hold dn (cn : Int) by omega)
        have hqr : q ≠ r := by omega
        have h4 := (oth q cn dn hdn (by omega) hqr).2 hq
        have h5 := (oth q (cn + 1) bn hbn (by omega) hqr).2 (by rw [h3]; exact hq)
        exact ⟨by omega, by omega, by omega⟩
  have hjo : T3.joins r dn ((cn + 1 : Nat) : Int) = T.swaps (r : Int) bn dn (cn : Int) := by
    unfold TabS.joins
    rw [hat3, hat4, show ((cn + 1 : Nat) : Int) - 1 = (cn : Int) by omega, Int.toNat_natCast, hsw]
    simp
  have hfc : T.freeC r dn ((cn + 1 : Nat) : Int) = decide (T.hold dn ((cn + 1 : Nat) : Int) = -1 ∨ T.hold dn ((cn + 1 : Nat) : Int) = (r : Int)) := by
    unfold TabS.freeC
    rw [if_pos ⟨⟨by omega, by omega⟩, ⟨by omega, by omega⟩, by omega, by omega⟩, Int.toNat_natCast]
  unfold TabS.freeM
  rw [e2, hfc, hjo]
  simp only [Int.toNat_natCast]
  by_cases h6 : T3.hold dn ((cn + 1 : Nat) : Int) ≠ -1
  · rw [if_pos h6, if_neg (fun x => h6 (hk.2 (of_decide_eq_true x.2.2)))]
    simp
  · rw [if_neg h6, if_pos ⟨⟨by omega, by omega⟩, ⟨by omega, by omega⟩, decide_eq_true (hk.1 (Decidable.not_not.1 h6))⟩]
    cases T.swaps (r : Int) bn dn (cn : Int) with
    | true => simp
    | false =>
      simp only [Bool.false_eq_true, if_false]
      split <;> simp
end
end Go.Proofs.Qxb6500717aGreat
