/-
  Plain: no two robots are on one cell at a tick.
-/
import Derived.Test.Qxb6500716aDm
namespace Go.Proofs.Qxb6500716a
open Go.RowKit Go.Maps
set_option linter.unusedSimpArgs false
set_option linter.unusedVariables false
set_option maxRecDepth 20000
set_option maxHeartbeats 4000000
theorem holdF_no {T : TS} {c t : Int} : ∀ (n k : Nat), T.holdF c t k n = -1 → ∀ j : Nat, k ≤ j → j < k + n → T.at j t ≠ c
  | 0, k, _, j, h1, h2 => by omega
  | n + 1, k, h, j, h1, h2 => by
    rw [TS.holdF] at h
    split at h
    · omega
    · rename_i e
      by_cases ej : j = k
      · rw [ej]; exact e
      · exact holdF_no n (k + 1) h j (by omega) (by omega)
theorem hold_no {T : TS} {c t : Int} (h : T.hold c t = -1) (j : Nat) (hj : j < T.nr) : T.at j t ≠ c := holdF_no T.nr 0 h j (by omega) (by omega)
theorem holdF_yes {T : TS} {c t : Int} : ∀ (n k : Nat), T.holdF c t k n ≠ -1 → ∃ j : Nat, T.holdF c t k n = j ∧ k ≤ j ∧ j < k + n ∧ T.at j t = c
  | 0, k, h => absurd rfl h
  | n + 1, k, h => by
    rw [TS.holdF] at h ⊢
    by_cases e : T.at k t = c
    · rw [if_pos e]; exact ⟨k, rfl, by omega, by omega, e⟩
    · rw [if_neg e] at h ⊢
      obtain ⟨j, h1, h2, h3, h4⟩ := holdF_yes n (k + 1) h
      exact ⟨j, h1, by omega, by omega, h4⟩
theorem hold_yes {T : TS} {c t : Int} (h : T.hold c t ≠ -1) : ∃ j : Nat, T.hold c t = j ∧ j < T.nr ∧ T.at j t = c := by
  obtain ⟨j, h1, -, h3, h4⟩ := holdF_yes T.nr 0 h
  exact ⟨j, h1, by omega, h4⟩
/-- What every table of a desk meets. -/
structure TInv (T : TS) : Prop where
  un : ∀ (a b : Nat) (t : Int), a < T.nr → b < T.nr → a ≠ b → T.at a t = T.at b t → T.at a t = -1
  m : MBd T.tm
  nr : T.nr ≤ 6
  nc : T.nc < 1000
  base : T.base ≤ 1073741824
  old : ∀ (a b : Int), b < (T.base : Int) → T.at a b = -1
theorem put_at (T : TS) (r c t a b : Int) : (T.put r c t).at a b = if a = r ∧ b = t then c else T.at a b := by
  unfold TS.at TS.put putM
  by_cases e : a = r ∧ b = t
  · simp only [if_pos e]
  · simp only [if_neg e]
theorem TInv.put {T : TS} {r c t : Int} (h : TInv T) (hp : T.place r c t = 0) (hh : T.hold c t = -1) : TInv (T.put r c t) := by
  obtain ⟨h1, h2, h3⟩ := place_ok hp
  have hnr := h.nr
  have hnc := h.nc
  have hbs := h.base
  refine ⟨fun a b u ha hb hne => ?_, h.m.put (by omega) (by omega) (by omega), h.nr, h.nc, h.base, fun a b hb => ?_⟩
  · rw [put_at, put_at]
    have ha' : a < T.nr := ha
    have hb' : b < T.nr := hb
    by_cases e1 : (a : Int) = r ∧ u = t
    · rw [if_pos e1, if_neg (fun e2 => hne (by omega))]
      intro e
      rw [e1.2] at e
      exact absurd e.symm (hold_no hh b hb')
    · rw [if_neg e1]
      by_cases e2 : (b : Int) = r ∧ u = t
      · rw [if_pos e2]
        intro e
        rw [e2.2] at e
        exact absurd e (hold_no hh a ha')
      · rw [if_neg e2]
        exact h.un a b u ha' hb' hne
  · rw [put_at, if_neg (fun e => by have hb' : b < (T.base : Int) := hb; omega)]
    exact h.old a b hb
theorem TInv.less {T T' : TS} (h : TInv T) (hat : ∀ a b, T'.at a b = T.at a b ∨ T'.at a b = -1) (hm : ∀ a b x, T'.tm a b = some x → T.tm a b = some x) (hnr : T'.nr = T.nr) (hnc : T'.nc = T.nc) (hb : T'.base ≤ 1073741824) (ho : ∀ (a b : Int), b < (T'.base : Int) → T'.at a b = -1) : TInv T' := by
  refine ⟨fun a b u ha hb' hne e => ?_, ⟨fun a b x hx => h.m.a a b x (hm a b x hx), fun a b x hx => h.m.b a b x (hm a b x hx), fun a b x hx => h.m.x a b x (hm a b x hx)⟩, by rw [hnr]; exact h.nr, by rw [hnc]; exact h.nc, hb, ho⟩
  rcases hat a u with h1 | h1
  · rcases hat b u with h2 | h2
    · rw [h1] at e ⊢
      rw [h2] at e
      exact h.un a b u (by omega) (by omega) hne e
    · rw [e, h2]
  · exact h1
theorem trunc_at {T : TS} {r t : Int} (hr : 0 ≤ r) (a b : Int) : (T.trunc r t).at a b = if a = r ∧ max t T.base ≤ b then -1 else T.at a b := by
  obtain ⟨k, rfl⟩ : ∃ k : Nat, r = k := ⟨r.toNat, by omega⟩
  obtain ⟨u, hu⟩ : ∃ u : Nat, max t (T.base : Int) = u := ⟨(max t (T.base : Int)).toNat, by omega⟩
  unfold TS.at TS.trunc cutM
  simp only
  rw [hu]
  simp only [Int.toNat_natCast]
  by_cases e : a = k ∧ (u : Int) ≤ b
  · rw [if_pos e, if_pos e]
    simp only
    rw [e.1]
    exact spAt_off (fun y hy => cut_off k u b e.2 T.sp y hy)
  · rw [if_neg e, if_neg e]
    by_cases ea : a = k
    · rw [ea]
      rw [spAt_cut_before k u b (by omega) T.sp]
    · rw [spAt_cut_other k u a b ea T.sp]
theorem TInv.trunc {T : TS} {r t : Int} (h : TInv T) (hr : 0 ≤ r) : TInv (T.trunc r t) := by
  have hc : ∀ a b, (T.trunc r t).at a b = T.at a b ∨ (T.trunc r t).at a b = -1 := fun a b => by
    rw [trunc_at hr]
    split
    · exact Or.inr rfl
    · exact Or.inl rfl
  refine h.less hc (fun a b x hx => ?_) rfl rfl h.base (fun a b hb => ?_)
  · unfold TS.trunc cutM at hx
    simp only at hx
    split at hx
    · cases hx
    · exact hx
  · rcases hc a b with e | e
    · rw [e]; exact h.old a b hb
    · exact e
theorem spAt_adv (k : Nat) (r t : Int) : ∀ l : List Sg, spAt (advS k l) r t = if t < (k : Int) then -1 else spAt l r t := by
  intro l
  induction l with
  | nil => simp [advS, spAt]
  | cons x l ih =>
    unfold advS
    have hon : (x.adv k).on r t = (if t < (k : Int) then false else x.on r t) := by
      unfold Sg.adv Sg.on
      simp only
      split
      · simp; omega
      · congr 2
        simp
        omega
    by_cases e : (x.adv k).f < (x.adv k).u
    · rw [if_pos e, spAt, spAt, ih, hon]
      by_cases ht : t < (k : Int)
      · simp [ht]
      · simp only [if_neg ht]
        rfl
    · rw [if_neg e, spAt, ih]
      by_cases ht : t < (k : Int)
      · simp [ht]
      · rw [if_neg ht, if_neg ht]
        have : x.on r t = false := by
          unfold Sg.adv at e
          unfold Sg.on
          simp at e ⊢
          omega
        rw [this]
        simp
theorem adv_at (T : TS) (k : Nat) (a b : Int) : (T.advT k).at a b = if b < (k : Int) then -1 else T.at a b := by
  unfold TS.at TS.advT advM
  simp only
  by_cases e : b < (k : Int)
  · rw [if_pos e, if_pos e]
    simp only
    rw [spAt_adv, if_pos e]
  · rw [if_neg e, if_neg e, spAt_adv, if_neg e]
theorem TInv.adv {T : TS} (h : TInv T) (t : Int) : TInv (T.adv t).2 := by
  unfold TS.adv
  split
  · exact h
  · split
    · exact h
    · refine h.less (fun a b => ?_) (fun a b x hx => ?_) rfl rfl (by show t.toNat ≤ _; omega) (fun a b hb => ?_)
      · rw [adv_at]
        split
        · exact Or.inr rfl
        · exact Or.inl rfl
      · unfold TS.advT advM at hx
        simp only at hx
        split at hx
        · cases hx
        · exact hx
      · rw [adv_at]
        exact if_pos hb
theorem spLater_of {a c t b : Int} (hc : c ≠ -1) (hb : t ≤ b) : ∀ l : List Sg, spAt l a b = c → spLater l a c t = true := by
  intro l
  induction l with
  | nil => intro h; exact absurd h.symm hc
  | cons x l ih =>
    intro h
    rw [spAt] at h
    rw [spLater]
    by_cases e : x.on a b = true
    · rw [if_pos e] at h
      unfold Sg.on at e
      simp at e
      rw [if_pos ⟨e.1, by omega, Or.inr h⟩]
    · rw [if_neg e] at h
      split
      · rfl
      · exact ih h
theorem later_of {T : TS} {a c t b : Int} (hm : MBd T.tm) (hc : c ≠ -1) (hb : t ≤ b) (h : T.at a b = c) : T.later a c t = true := by
  unfold TS.at at h
  split at h
  · rename_i x hx
    exact later_yes hm ⟨b, x, hx, hb, Or.inr h⟩
  · unfold TS.later
    rw [spLater_of hc hb T.sp h]
    simp
theorem freeFF_at {T : TS} {r c t : Int} : ∀ (n k : Nat), T.freeFF r c t k n = true → ∀ j : Nat, k ≤ j → j < k + n → (j : Int) ≠ r → T.later j c t = false
  | 0, k, _, j, h1, h2, _ => by omega
  | n + 1, k, h, j, h1, h2, hr => by
    rw [TS.freeFF] at h
    split at h
    · cases h
    · rename_i e
      by_cases ej : j = k
      · rw [ej] at hr ⊢
        cases hl : T.later k c t with
        | false => rfl
        | true => exact absurd ⟨hr, hl⟩ e
      · exact freeFF_at n (k + 1) h j (by omega) (by omega) hr
theorem freeF_at {T : TS} {r c t : Int} (hm : MBd T.tm) (h : T.freeF r c t = true) : (0 ≤ c ∧ c < (T.nc : Int)) ∧ (T.base : Int) ≤ t ∧ ∀ (j : Nat) (b : Int), j < T.nr → (j : Int) ≠ r → t ≤ b → T.at j b ≠ c := by
  unfold TS.freeF TS.rOk TS.cOk TS.askOk at h
  simp at h
  refine ⟨h.2.1, h.2.2.1.1, fun j b hj hr hb e => ?_⟩
  have h1 := freeFF_at T.nr 0 h.2.2.2 j (by omega) (by omega) hr
  rw [later_of hm (by omega) hb e] at h1
  cases h1
theorem spAt_app (x : Sg) (a b : Int) : ∀ l : List Sg, spAt (l ++ [x]) a b = spAt l a b ∨ (x.on a b = true ∧ spAt (l ++ [x]) a b = x.c) := by
  intro l
  induction l with
  | nil =>
    by_cases e : x.on a b = true
    · exact Or.inr ⟨e, by simp [spAt, e]⟩
    · exact Or.inl (by simp [spAt, e])
  | cons y l ih =>
    rw [List.cons_append, spAt, spAt]
    by_cases e : y.on a b = true
    · rw [if_pos e, if_pos e]; exact Or.inl rfl
    · rw [if_neg e, if_neg e]; exact ih
theorem sit_at {T : TS} {r c t : Int} (hr : 0 ≤ r) (hc : 0 ≤ c) (ht : 0 ≤ t) (a b : Int) : (T.sit r c t).at a b = T.at a b ∨ (a = r ∧ t ≤ b ∧ (T.sit r c t).at a b = c) := by
  unfold TS.at TS.sit
  simp only
  cases T.tm a b with
  | some x => exact Or.inl rfl
  | none =>
    simp only
    rcases spAt_app ⟨r.toNat, c.toNat, t.toNat, 1099511627776⟩ a b T.sp with h | ⟨h1, h2⟩
    · exact Or.inl h
    · unfold Sg.on at h1
      simp at h1
      refine Or.inr ⟨by omega, by omega, ?_⟩
      rw [h2]
      simp only
      omega
theorem TInv.sit {T : TS} {r c t : Int} (h : TInv T) (hp : T.place r c t = 0) (hf : T.freeF r c t = true) : TInv (T.sit r c t) := by
  obtain ⟨h1, h2, h3⟩ := place_ok hp
  obtain ⟨-, -, hz⟩ := freeF_at h.m hf
  have hs := fun a b => sit_at (T := T) h1.1 h2.1 (by omega : 0 ≤ t) a b
  refine ⟨fun a b u ha hb hne e => ?_, h.m, h.nr, h.nc, h.base, fun a b hb => ?_⟩
  · have ha' : a < T.nr := ha
    have hb' : b < T.nr := hb
    rcases hs a u with e1 | ⟨e1, e2, e3⟩
    · rcases hs b u with f1 | ⟨f1, f2, f3⟩
      · rw [e1] at e ⊢
        rw [f1] at e
        exact h.un a b u ha' hb' hne e
      · rw [e1, f3] at e
        exact absurd e (hz a u ha' (by omega) f2)
    · rcases hs b u with f1 | ⟨f1, f2, f3⟩
      · rw [e3, f1] at e
        exact absurd e.symm (hz b u hb' (by omega) e2)
      · exact absurd (by omega : a = b) hne
  · have hb' : b < (T.base : Int) := hb
    rcases hs a b with e1 | ⟨e1, e2, e3⟩
    · rw [e1]; exact h.old a b hb'
    · omega
theorem TInv.stand {T : TS} (h : TInv T) (r c t : Int) : TInv (T.stand r c t).2 := by
  unfold TS.stand
  split
  · exact h
  · rename_i h1
    split
    · exact h
    · split
      · exact h
      · rename_i h2
        unfold TS.stand3
        split
        · exact h
        · split
          · exact h
          · exact h.sit (by omega) (by simpa using h2)
theorem TInv.reserve {T : TS} (h : TInv T) (r c t : Int) : TInv (T.reserve r c t).2 := by
  by_cases e : (T.reserve r c t).1 = 0
  · obtain ⟨h1, -, h3, h4, -⟩ := res_ok e
    rw [h4]
    exact h.put h1 h3
  · rw [res_no e]; exact h
theorem TInv.pathGo {T0 : TS} (h0 : TInv T0) (r s : Int) : ∀ (l : List Int) (i : Nat) (T : TS), TInv T → TInv (T0.pathGo r s i l T).2.2
  | [], i, T, h => h
  | c :: l, i, T, h => by
    rw [TS.pathGo]
    split
    · exact h0
    · exact TInv.pathGo h0 r s l (i + 1) _ (h.reserve r c (s + i))
theorem TInv.path {T : TS} (h : TInv T) (r s : Int) (l : List Int) : TInv (T.path r s l).2.2 := TInv.pathGo h r s l 0 T h
theorem TInv.cutC {T : TS} (h : TInv T) (r t : Int) : TInv (T.cutC r t).2.2 := by
  unfold TS.cutC
  split
  · rename_i e
    unfold TS.rOk at e
    simp at e
    exact h.trunc e.1
  · exact h
theorem TInv.enter {T : TS} (h : TInv T) {r t : Int} (hr : 0 ≤ r) (path : List Int) : TInv (T.enter r t path).2 := by
  unfold TS.enter
  split
  · exact h
  · split
    · exact (h.trunc hr).path _ _ _
    · split <;> exact ((h.trunc hr).path _ _ _).stand _ _ _
theorem TInv.new {nc nr cap : Nat} (hn : nr ≤ 6) (hc : nc < 1000) : TInv (TS.new nc nr cap) := by
  have h0 : ∀ a b, (TS.new nc nr cap).at a b = -1 := fun a b => rfl
  exact ⟨fun a b t _ _ _ _ => h0 _ _, ⟨fun _ _ _ h => (by cases h), fun _ _ _ h => (by cases h), fun _ _ _ h => (by cases h)⟩, hn, hc, by simp [TS.new], fun a b _ => h0 a b⟩
theorem TInv.stN {T : TS} (h : TInv T) (F : FS) : ∀ i, TInv (stN F T i)
  | 0 => h
  | i + 1 => (TInv.stN h F i).stand _ _ _
theorem TInv.plan {F : FS} {T : TS} {q : Rq} {S : PS} (h : TInv T) (hF : FOk F) : TInv (PS.plan F T q S).2.1 := by
  unfold PS.plan
  split
  · rename_i hc
    exact h.enter (rok_of hF (search_c0 hc)).r.1 _
  · exact h
def Dk.inv (D : Dk) : Prop := ∀ X, D.W = some X → FOk X.F ∧ TInv X.T
theorem step_inv (D : Dk) (o : Opr) (h : D.inv) (hF : ∀ X, (D.step o).1.W = some X → FOk X.F) : (D.step o).1.inv := by
  intro Y hY
  refine ⟨hF Y hY, ?_⟩
  have hF := hF Y hY
  unfold Dk.step at hY
  by_cases h0 : o.K = 0
  · rw [if_pos h0] at hY
    unfold wldAns at hY
    split at hY
    · exact (h Y hY).2
    · split at hY
      · exact (h Y hY).2
      · simp only [Option.some.injEq] at hY
        rw [← hY] at hF ⊢
        have := hF.n
        have := hF.nb
        exact TInv.stN (TInv.new hF.nb.2 (Nat.lt_of_le_of_lt hF.n.2 (by omega))) _ _
  · rw [if_neg h0] at hY
    cases hW : D.W with
    | none =>
      rw [hW] at hY
      exact (h Y hY).2
    | some X =>
      obtain ⟨hXF, hX⟩ := h X hW
      have hn : D.no.W = some Y → TInv Y.T := fun e => (h Y e).2
      rw [hW] at hY
      simp only at hY
      split at hY
      · simp only [Option.some.injEq] at hY
        rw [← hY]
        exact hX.adv _
      split at hY
      · simp only [Option.some.injEq] at hY
        rw [← hY]
        exact hX.path _ _ _
      split at hY
      · simp only [Option.some.injEq] at hY
        rw [← hY]
        exact hX.stand _ _ _
      split at hY
      · simp only [Option.some.injEq] at hY
        rw [← hY]
        exact hX.cutC _ _
      split at hY
      · split at hY
        · exact hn hY
        · simp only [Option.some.injEq] at hY
          rw [← hY]
          exact hX.plan hXF
      split at hY
      · split at hY
        · exact hn hY
        · simp only [Option.some.injEq] at hY
          rw [← hY]
          exact hX
      split at hY
      · exact hn hY
      · exact hn hY
/-- A cell that is free for the robot: no other is there. -/
theorem freeC_at {T : TS} {r c t : Int} (h : TInv T) (hf : T.freeC r c t = true) : ∀ j : Nat, j < T.nr → (j : Int) ≠ r → T.at j t ≠ c := by
  intro j hj hr e
  unfold TS.freeC TS.rOk TS.cOk TS.askOk at hf
  simp at hf
  by_cases h1 : T.hold c t = -1
  · exact hold_no h1 j hj e
  · obtain ⟨k, h2, h3, h4⟩ := hold_yes h1
    have hk : (k : Int) = r := by
      rcases hf.2.2.2 with h5 | h5
      · exact absurd h5 h1
      · omega
    have := h.un j k t hj h3 (by omega) (by rw [e, h4])
    omega
/-- A move that is free: no other is there, and none comes the other way. -/
theorem freeM_at {T : TS} {r a b t : Int} (h : TInv T) (hf : T.freeM r a b t = true) : ∀ j : Nat, j < T.nr → (j : Int) ≠ r → T.at j (t + 1) ≠ b ∧ ¬ (a ≠ b ∧ T.at j t = b ∧ T.at j (t + 1) = a) := by
  intro j hj hr
  unfold TS.freeM at hf
  simp only [Bool.and_eq_true, Bool.or_eq_true, decide_eq_true_eq] at hf
  obtain ⟨h1, h2, h3, h4⟩ := hf
  refine ⟨freeC_at h h3 j hj hr, fun ⟨e1, e2, e3⟩ => ?_⟩
  have hb : 0 ≤ b := by
    unfold TS.freeC TS.cOk at h3
    simp at h3
    exact h3.2.1.1
  have hr0 : 0 ≤ r := by
    unfold TS.freeC TS.rOk at h3
    simp at h3
    exact h3.1.1
  rcases h4 with h4 | h4 | h4 | h4
  · exact e1 h4
  · exact hold_no h4 j hj e2
  · obtain ⟨k, g2, g3, g4⟩ := hold_yes (by omega : T.hold b t ≠ -1)
    have := h.un j k t hj g3 (by omega) (by rw [e2, g4])
    omega
  · by_cases h0 : T.hold b t = -1
    · exact hold_no h0 j hj e2
    · obtain ⟨k, g2, g3, g4⟩ := hold_yes h0
      by_cases ek : j = k
      · rw [g2, ← ek] at h4
        exact h4 e3
      · have := h.un j k t hj g3 ek (by rw [e2, g4])
        omega
end Go.Proofs.Qxb6500716a
