/-
  Plain: a search that is asked again with a smaller horizon or limit.
-/
import Derived.Test.Qxb6500716aCg
namespace Go.Proofs.Qxb6500716a
open Go.RowKit Go.Maps
set_option linter.unusedSimpArgs false
set_option linter.unusedVariables false
set_option maxRecDepth 20000
set_option maxHeartbeats 4000000
/-! The item that Pop takes, by a split of the list. -/
theorem lt_trans' {a b c : It} (h1 : a.lt b = true) (h2 : b.lt c = true) : a.lt c = true := by
  unfold It.lt at *
  simp at *
  omega
theorem lt_le {a b c : It} (h1 : a.lt b = true) (h2 : c.lt b = false) : a.lt c = true := by
  unfold It.lt at *
  simp at *
  omega
theorem le_le {a b c : It} (h1 : b.lt a = false) (h2 : c.lt b = false) : c.lt a = false := by
  unfold It.lt at *
  simp at *
  omega
theorem lt_irr (a : It) : a.lt a = false := by
  unfold It.lt
  simp
theorem getD_mid (a b : List It) (x : It) : (a ++ x :: b).getD a.length It.nil = x := by simp
theorem bestGo_split (l : List It) : ∀ (r a b : List It) (x : It), l = a ++ x :: b ++ r → (∀ y, y ∈ a → x.lt y = true) → (∀ y, y ∈ b → y.lt x = false) →
    ∃ a' x' b', l = a' ++ x' :: b' ∧ bestGo l r (a.length + 1 + b.length) a.length = a'.length ∧ (∀ y, y ∈ a' → x'.lt y = true) ∧ (∀ y, y ∈ b' → y.lt x' = false)
  | [], a, b, x, hl, ha, hb => ⟨a, x, b, by rw [hl]; simp, rfl, ha, hb⟩
  | z :: r, a, b, x, hl, ha, hb => by
    have hg : l.getD a.length It.nil = x := by rw [hl, List.append_assoc, List.cons_append]; exact getD_mid a _ x
    rw [bestGo, hg]
    by_cases e : z.lt x = true
    · rw [if_pos e]
      have := bestGo_split l r (a ++ x :: b) [] z (by rw [hl]; simp) (fun y hy => by
        rcases List.mem_append.1 hy with h | h
        · exact lt_trans' e (ha y h)
        · rcases List.mem_cons.1 h with rfl | h
          · exact e
          · exact lt_le e (hb y h)) (fun y hy => by cases hy)
      rw [show (a ++ x :: b).length + 1 + ([] : List It).length = a.length + 1 + b.length + 1 by simp; omega, show (a ++ x :: b).length = a.length + 1 + b.length by simp; omega] at this
      exact this
    · rw [if_neg e]
      have := bestGo_split l r a (b ++ [z]) x (by rw [hl]; simp) ha (fun y hy => by
        rcases List.mem_append.1 hy with h | h
        · exact hb y h
        · simp at h
          subst h
          simpa using e)
      rw [show a.length + 1 + (b ++ [z]).length = a.length + 1 + b.length + 1 by simp; omega] at this
      exact this
theorem best_split {l : List It} (h : l ≠ []) : ∃ a x b, l = a ++ x :: b ∧ best l = a.length ∧ (∀ y, y ∈ a → x.lt y = true) ∧ (∀ y, y ∈ b → y.lt x = false) := by
  cases l with
  | nil => exact absurd rfl h
  | cons x r =>
    unfold best
    rw [bestGo, show (x :: r).getD 0 It.nil = x from rfl, lt_irr, if_neg (by simp)]
    exact bestGo_split (x :: r) r [] [] x rfl (fun y hy => by cases hy) (fun y hy => by cases hy)
theorem best_of {l a b : List It} {x : It} (hl : l = a ++ x :: b) (ha : ∀ y, y ∈ a → x.lt y = true) (hb : ∀ y, y ∈ b → y.lt x = false) : best l = a.length := by
  obtain ⟨a2, x2, b2, h1, h2, h3, h4⟩ := best_split (l := l) (by rw [hl]; simp)
  rw [h2]
  rcases Nat.lt_trichotomy a2.length a.length with h | h | h
  · exfalso
    have e2 : l[a2.length]? = some x2 := by rw [h1]; simp
    have e3 : l[a2.length]? = a[a2.length]? := by rw [hl, List.getElem?_append_left h]
    have m1 : x2 ∈ a := List.mem_of_getElem? (e3.symm.trans e2)
    have e4 : l[a.length]? = some x := by rw [hl]; simp
    have m2 : x ∈ b2 := by
      rw [h1, List.getElem?_append_right (by omega), List.getElem?_cons] at e4
      rw [if_neg (by omega)] at e4
      exact List.mem_of_getElem? e4
    have := h4 x m2
    rw [ha x2 m1] at this
    cases this
  · exact h
  · exfalso
    have e2 : l[a.length]? = some x := by rw [hl]; simp
    have e3 : l[a.length]? = a2[a.length]? := by rw [h1, List.getElem?_append_left h]
    have m1 : x ∈ a2 := List.mem_of_getElem? (e3.symm.trans e2)
    have e4 : l[a2.length]? = some x2 := by rw [h1]; simp
    have m2 : x2 ∈ b := by
      rw [hl, List.getElem?_append_right (by omega), List.getElem?_cons] at e4
      rw [if_neg (by omega)] at e4
      exact List.mem_of_getElem? e4
    have := hb x2 m2
    rw [h3 x m1] at this
    cases this
theorem erase_mid (a b : List It) (x : It) : (a ++ x :: b).eraseIdx a.length = a ++ b := by
  rw [List.eraseIdx_append_of_length_le (Nat.le_refl _)]
  simp
/-! Two searches side by side. -/
structure Vw where
  k : Nat
  t : Nat
  c : Nat
  o : Nat
  l : Nat
def vw (nd : List Nd) (x : It) : Vw := ⟨x.k, x.t, (nd.getD x.v Nd.nil).c, (nd.getD x.v Nd.nil).o, (nd.getD x.v Nd.nil).l⟩
def idx (F : FS) (gl : List (Int × Int)) (c o l : Nat) : Int := ((o : Int) * ((gl.length : Int) + 1) + (l : Int)) * (F.n : Int) + (c : Int)
theorem mix_inj {n A B c d : Nat} (hc : c < n) (hd : d < n) (h : A * n + c = B * n + d) : A = B ∧ c = d := by
  have h1 := congrArg (· % n) h
  simp only [Nat.mul_add_mod_self_right, Nat.mod_eq_of_lt hc, Nat.mod_eq_of_lt hd] at h1
  subst h1
  have h2 : A * n = B * n := by omega
  exact ⟨Nat.eq_of_mul_eq_mul_right (by omega) h2, rfl⟩
theorem idx_inj {F : FS} {gl : List (Int × Int)} {c o l c2 o2 l2 : Nat} (hc : c < F.n) (hc2 : c2 < F.n) (hl : l ≤ gl.length) (hl2 : l2 ≤ gl.length) (h : idx F gl c o l = idx F gl c2 o2 l2) : c = c2 ∧ o = o2 ∧ l = l2 := by
  unfold idx at h
  have h' : (o * (gl.length + 1) + l) * F.n + c = (o2 * (gl.length + 1) + l2) * F.n + c2 := by
    have := h
    norm_cast at this
  obtain ⟨h1, h2⟩ := mix_inj hc hc2 h'
  obtain ⟨h3, h4⟩ := mix_inj (n := gl.length + 1) (by omega) (by omega) h1
  exact ⟨h2, h3, h4⟩
structure Bi (F : FS) (gl : List (Int × Int)) (bay hz : Int) (S S' : PS) : Prop where
  v : S'.hp.map (vw S'.nd) = (S.hp.filter (fun x => decide ((x.k : Int) ≤ hz))).map (vw S.nd)
  seen : ∀ c o l : Nat, c < F.n → l ≤ gl.length → (o : Int) + (F.est bay gl c l : Int) ≤ hz → S'.seen (idx F gl c o l) = S.seen (idx F gl c o l)
  hv : ∀ x, x ∈ S.hp → x.v < S.nd.length
  hv' : ∀ x, x ∈ S'.hp → x.v < S'.nd.length
  key : ∀ x, x ∈ S.hp → x.k = (S.nd.getD x.v Nd.nil).o + F.est bay gl (S.nd.getD x.v Nd.nil).c (S.nd.getD x.v Nd.nil).l
  ok : ∀ x, x ∈ S.nd → x.c < F.n ∧ x.l ≤ gl.length
theorem getD_app {α : Type} (l : List α) (y d : α) (i : Nat) (h : i < l.length) : (l ++ [y]).getD i d = l.getD i d := by
  rw [List.getD_eq_getElem?_getD, List.getD_eq_getElem?_getD, List.getElem?_append_left h]
theorem getD_new {α : Type} (l : List α) (y d : α) : (l ++ [y]).getD l.length d = y := by simp
theorem vw_app {nd : List Nd} {y : Nd} {x : It} (h : x.v < nd.length) : vw (nd ++ [y]) x = vw nd x := by
  unfold vw
  rw [getD_app _ _ _ _ h]
theorem map_vw_app {nd : List Nd} {y : Nd} {l : List It} (h : ∀ x, x ∈ l → x.v < nd.length) : l.map (vw (nd ++ [y])) = l.map (vw nd) := List.map_congr_left (fun x hx => vw_app (h x hx))
theorem reach_eq (F : FS) (gl : List (Int × Int)) (bay hz : Int) (S : PS) (c o l : Nat) (p : Int) : S.reach F gl bay hz c o l p = if hz < (o : Int) + (F.est bay gl c l : Int) then S else if S.seen (idx F gl c o l) = true then S else { S with hp := S.hp ++ [⟨o + F.est bay gl c l, F.est bay gl c l, S.nd.length⟩], nd := S.nd ++ [⟨c, o, l, p⟩], seen := fun x => decide (x = idx F gl c o l) || S.seen x } := rfl
theorem Bi.reach {F : FS} {gl : List (Int × Int)} {bay hz h' : Int} {S S' : PS} (h : Bi F gl bay h' S S') (hh : h' ≤ hz) (c o l : Nat) (p p' : Int) (hc : c < F.n) (hl : l ≤ gl.length) : Bi F gl bay h' (S.reach F gl bay hz c o l p) (S'.reach F gl bay h' c o l p') := by
  rw [reach_eq, reach_eq]
  by_cases h1 : hz < (o : Int) + (F.est bay gl c l : Int)
  · rw [if_pos h1, if_pos (by omega)]; exact h
  rw [if_neg h1]
  by_cases h2 : S.seen (idx F gl c o l) = true
  · rw [if_pos h2]
    by_cases h3 : h' < (o : Int) + (F.est bay gl c l : Int)
    · rw [if_pos h3]; exact h
    · rw [if_neg h3, if_pos (by rw [h.seen c o l hc hl (by omega)]; exact h2)]
      exact h
  rw [if_neg h2]
  have hvold : ∀ x, x ∈ S.hp → x.v < (S.nd ++ [(⟨c, o, l, p⟩ : Nd)]).length := fun x hx => by have := h.hv x hx; simp; omega
  by_cases h3 : h' < (o : Int) + (F.est bay gl c l : Int)
  · rw [if_pos h3]
    refine ⟨?_, fun c2 o2 l2 hc2 hl2 hk => ?_, fun x hx => ?_, h.hv', fun x hx => ?_, fun x hx => ?_⟩
    · simp only
      rw [List.filter_append, List.filter_cons_of_neg (by simp; omega), List.filter_nil, List.append_nil, map_vw_app (fun x hx => h.hv x (List.mem_filter.1 hx).1)]
      exact h.v
    · simp only
      rw [show decide (idx F gl c2 o2 l2 = idx F gl c o l) = false by
        simp only [decide_eq_false_iff_not]
        intro e
        obtain ⟨rfl, rfl, rfl⟩ := idx_inj hc2 hc hl2 hl e
        omega]
      rw [Bool.false_or]
      exact h.seen c2 o2 l2 hc2 hl2 hk
    · simp only at hx ⊢
      rcases List.mem_append.1 hx with hx | hx
      · exact hvold x hx
      · simp at hx; subst hx; simp
    · simp only at hx ⊢
      rcases List.mem_append.1 hx with hx | hx
      · rw [getD_app _ _ _ _ (h.hv x hx)]; exact h.key x hx
      · simp at hx; subst hx; simp only [getD_new]
    · simp only at hx
      rcases List.mem_append.1 hx with hx | hx
      · exact h.ok x hx
      · simp at hx; subst hx; exact ⟨hc, hl⟩
  · have h4 : ¬ S'.seen (idx F gl c o l) = true := by
      rw [h.seen c o l hc hl (by omega)]
      exact h2
    rw [if_neg h3, if_neg h4]
    refine ⟨?_, fun c2 o2 l2 hc2 hl2 hk => ?_, fun x hx => ?_, fun x hx => ?_, fun x hx => ?_, fun x hx => ?_⟩
    · simp only
      rw [List.filter_append, List.filter_cons_of_pos (by simp; omega), List.filter_nil, List.map_append, List.map_append, map_vw_app (fun x hx => h.hv x (List.mem_filter.1 hx).1), map_vw_app h.hv', h.v]
      simp [vw]
    · simp only
      rw [h.seen c2 o2 l2 hc2 hl2 hk]
    · simp only at hx ⊢
      rcases List.mem_append.1 hx with hx | hx
      · exact hvold x hx
      · simp at hx; subst hx; simp
    · simp only at hx ⊢
      rcases List.mem_append.1 hx with hx | hx
      · have := h.hv' x hx; simp; omega
      · simp at hx; subst hx; simp
    · simp only at hx ⊢
      rcases List.mem_append.1 hx with hx | hx
      · rw [getD_app _ _ _ _ (h.hv x hx)]; exact h.key x hx
      · simp at hx; subst hx; simp only [getD_new]
    · simp only at hx
      rcases List.mem_append.1 hx with hx | hx
      · exact h.ok x hx
      · simp at hx; subst hx; exact ⟨hc, hl⟩
section
variable {F : FS} {T : TS} {q q2 : Rq} {bay hz h' : Int}
/-- Requests that a search does not tell apart. -/
structure Qe (q q2 : Rq) : Prop where
  r : q2.r = q.r
  t : q2.t = q.t
  s : q2.s = q.s
  g : q2.gl = q.gl
theorem Bi.near (hF : FOk F) (hq : Qe q q2) (hh : h' ≤ hz) (c o l : Nat) (id id' : Int) (hl : l ≤ q.gl.length) : ∀ (r : List Int) (S S' : PS), (∀ x, x ∈ r → x ∈ F.near c) → Bi F q.gl bay h' S S' → Bi F q.gl bay h' (nearGo F T q bay hz c o l id r S) (nearGo F T q2 bay h' c o l id' r S')
  | [], S, S', _, h => h
  | to :: r, S, S', hr, h => by
    rw [nearGo, nearGo, hq.r, hq.t, hq.g]
    have hto := hF.near c to (hr to (by simp))
    refine Bi.near hF hq hh c o l id id' hl r _ _ (fun x hx => hr x (by simp [hx])) ?_
    by_cases e : T.freeM q.r c to (q.t + o) = true
    · rw [if_pos e, if_pos e]
      exact h.reach hh _ _ _ _ _ (by omega) hl
    · rw [if_neg e, if_neg e]
      exact h
theorem Bi.expand (hF : FOk F) (hq : Qe q q2) (hh : h' ≤ hz) {S S' : PS} (h : Bi F q.gl bay h' S S') (x x' : Nd) (id id' : Int) (hc : x.c < F.n) (hl : x.l ≤ q.gl.length) (e1 : x'.c = x.c) (e2 : x'.o = x.o) (e3 : x'.l = x.l) : Bi F q.gl bay h' (S.expand F T q bay hz x id) (S'.expand F T q2 bay h' x' id') := by
  unfold PS.expand
  rw [e1, e2, e3]
  refine Bi.near hF hq hh _ _ _ _ _ hl _ _ _ (fun x hx => hx) ?_
  have h1 : Bi F q.gl bay h' (S.exp1 F T q bay hz x.c x.o x.l id) (S'.exp1 F T q2 bay h' x.c x.o x.l id') := by
    unfold PS.exp1
    rw [hq.g, hq.r, hq.t]
    cases hg : q.gl[x.l]? with
    | none => exact h
    | some g =>
      simp only
      by_cases e : g.1 = x.c ∧ T.stays q.r x.c (q.t + x.o) 0 g.2.toNat = true
      · rw [if_pos e, if_pos e]
        exact h.reach hh _ _ _ _ _ hc (List.getElem?_eq_some_iff.1 hg).1
      · rw [if_neg e, if_neg e]; exact h
  unfold PS.exp2
  rw [hq.g, hq.r, hq.t]
  by_cases e : T.freeM q.r x.c x.c (q.t + x.o) = true
  · rw [if_pos e, if_pos e]
    exact h1.reach hh _ _ _ _ _ hc hl
  · rw [if_neg e, if_neg e]; exact h1
/-- Pop, side by side. -/
theorem Bi.pop {gl : List (Int × Int)} {S S' : PS} (h : Bi F gl bay h' S S') (hne : S.hp ≠ []) :
    (S'.hp = [] ∧ h' < ((S.hp.getD (best S.hp) It.nil).k : Int)) ∨
    (S'.hp ≠ [] ∧ ((S.hp.getD (best S.hp) It.nil).k : Int) ≤ h' ∧ vw S'.nd (S'.hp.getD (best S'.hp) It.nil) = vw S.nd (S.hp.getD (best S.hp) It.nil) ∧ Bi F gl bay h' { S with hp := S.hp.eraseIdx (best S.hp) } { S' with hp := S'.hp.eraseIdx (best S'.hp) }) := by
  obtain ⟨a, x, b, h1, h2, h3, h4⟩ := best_split hne
  have hx : S.hp.getD (best S.hp) It.nil = x := by rw [h2, h1]; exact getD_mid a b x
  rw [hx]
  have hv := h.v
  by_cases hk : (x.k : Int) ≤ h'
  · right
    rw [h1, List.filter_append, List.filter_cons_of_pos (by simpa using hk), List.map_append, List.map_cons] at hv
    obtain ⟨a', r', e1, e2, e3⟩ := List.map_eq_append_iff.1 hv
    obtain ⟨x', b', e4, e5, e6⟩ := List.map_eq_cons_iff.1 e3
    subst e4
    have hlt : ∀ y z : It, ∀ nd nd' : List Nd, ∀ y' z' : It, vw nd' y' = vw nd y → vw nd' z' = vw nd z → y'.lt z' = y.lt z := fun y z nd nd' y' z' g1 g2 => by
      unfold vw at g1 g2
      simp only [Vw.mk.injEq] at g1 g2
      unfold It.lt
      rw [g1.1, g1.2.1, g2.1, g2.2.1]
    have ha' : ∀ y, y ∈ a' → x'.lt y = true := fun y hy => by
      have : vw S'.nd y ∈ (a.filter fun x => decide ((x.k : Int) ≤ h')).map (vw S.nd) := by rw [← e2]; exact List.mem_map_of_mem hy
      obtain ⟨z, hz1, hz2⟩ := List.mem_map.1 this
      rw [hlt x z S.nd S'.nd x' y e5 hz2.symm]
      exact h3 z (List.mem_filter.1 hz1).1
    have hb' : ∀ y, y ∈ b' → y.lt x' = false := fun y hy => by
      have : vw S'.nd y ∈ (b.filter fun x => decide ((x.k : Int) ≤ h')).map (vw S.nd) := by rw [← e6]; exact List.mem_map_of_mem hy
      obtain ⟨z, hz1, hz2⟩ := List.mem_map.1 this
      rw [hlt z x S.nd S'.nd y x' hz2.symm e5]
      exact h4 z (List.mem_filter.1 hz1).1
    have hb2 := best_of e1 ha' hb'
    refine ⟨by rw [e1]; simp, hk, ?_, ?_⟩
    · rw [hb2, e1, getD_mid]; exact e5
    · have hsub : ∀ y, y ∈ S.hp.eraseIdx (best S.hp) → y ∈ S.hp := fun y hy => List.mem_of_mem_eraseIdx hy
      have hsub' : ∀ y, y ∈ S'.hp.eraseIdx (best S'.hp) → y ∈ S'.hp := fun y hy => List.mem_of_mem_eraseIdx hy
      refine ⟨?_, h.seen, fun y hy => h.hv y (hsub y hy), fun y hy => h.hv' y (hsub' y hy), fun y hy => h.key y (hsub y hy), h.ok⟩
      simp only
      rw [h2, hb2, h1, e1, erase_mid, erase_mid, List.map_append, List.filter_append, List.map_append, e2, e6]
  · left
    refine ⟨?_, by omega⟩
    have hall : S.hp.filter (fun x => decide ((x.k : Int) ≤ h')) = [] := by
      rw [List.filter_eq_nil_iff]
      intro y hy
      rw [h1] at hy
      have : x.k ≤ y.k := by
        rcases List.mem_append.1 hy with hy | hy
        · have := h3 y hy
          unfold It.lt at this
          simp at this
          omega
        · rcases List.mem_cons.1 hy with rfl | hy
          · exact Nat.le_refl _
          · have := h4 y hy
            unfold It.lt at this
            simp at this
            omega
      simp
      omega
    rw [hall, List.map_nil] at hv
    exact List.map_eq_nil_iff.1 hv
theorem srch_nil {S : PS} (h : S.hp = []) : ∀ (k e : Nat), (PS.srch F T q bay hz k e S).2.c = 4
  | 0, e => by rw [PS.srch, if_pos h]; rfl
  | k + 1, e => by rw [PS.srch, if_pos h]; rfl
/-- With a horizon below the plan's length there is no path. -/
theorem srch_short (hF : FOk F) (hq : Qe q q2) (hh : h' ≤ hz) : ∀ (k e e2 : Nat) (S S' : PS), Bi F q.gl bay h' S S' → (PS.srch F T q bay hz k e S).2.c = 0 → h' + 1 < ((PS.srch F T q bay hz k e S).2.path.length : Int) → (PS.srch F T q2 bay h' k e2 S').2.c = 4
  | 0, e, e2, S, S', h, hc, _ => by
    rw [PS.srch] at hc
    split at hc <;> simp [Pl.fail] at hc
  | k + 1, e, e2, S, S', h, hc, hlen => by
    by_cases h1 : S.hp = []
    · rw [srch_nil h1] at hc; cases hc
    rw [PS.srch, if_neg h1] at hc hlen
    obtain ⟨a, x, b, g1, g2, -, -⟩ := best_split h1
    have hx : S.hp.getD (best S.hp) It.nil = x := by rw [g2, g1]; exact getD_mid a b x
    have hmem : x ∈ S.hp := by rw [g1]; simp
    have hkey := h.key x hmem
    have hxv := h.hv x hmem
    rcases h.pop h1 with ⟨e1, e3⟩ | ⟨e1, e3, e4, e5⟩
    · exact srch_nil e1 _ _
    · rw [hx] at hc hlen e3 e4
      by_cases h2 : T.arrd q bay (S.nd.getD x.v Nd.nil) = true
      · exfalso
        rw [if_pos h2] at hlen
        unfold Pl.trace at hlen
        simp only [lst_len] at hlen
        omega
      · rw [if_neg h2] at hc hlen
        rw [PS.srch, if_neg e1]
        unfold vw at e4
        simp only [Vw.mk.injEq] at e4
        have h3 : ¬ T.arrd q2 bay (S'.nd.getD (S'.hp.getD (best S'.hp) It.nil).v Nd.nil) = true := by
          unfold TS.arrd at h2 ⊢
          rw [hq.g, hq.r, hq.t, e4.2.2.2.2, e4.2.2.1, e4.2.2.2.1]
          exact h2
        rw [if_neg h3]
        have hn : S.nd.getD x.v Nd.nil ∈ S.nd := by
          rw [List.getD_eq_getElem?_getD, List.getElem?_eq_getElem hxv]
          exact List.getElem_mem hxv
        have hnk := h.ok _ hn
        refine srch_short hF hq hh k (e + 1) (e2 + 1) _ _ (e5.expand hF hq hh (S.nd.getD x.v Nd.nil) _ (x.v : Int) _ hnk.1 hnk.2 e4.2.2.1 e4.2.2.2.1 e4.2.2.2.2) hc hlen
/-- Searches that differ in what they do not read. -/
structure Ev (S S' : PS) : Prop where
  hp : S'.hp = S.hp
  nd : S'.nd = S.nd
  se : S'.seen = S.seen
theorem Ev.reach {gl : List (Int × Int)} {S S' : PS} (h : Ev S S') (c o l : Nat) (p : Int) : Ev (S.reach F gl bay hz c o l p) (S'.reach F gl bay hz c o l p) := by
  unfold PS.reach
  split
  · exact h
  · rw [h.se]
    split
    · exact h
    · exact ⟨by simp only [h.hp, h.nd], by simp only [h.nd], by simp only [h.se]⟩
theorem Ev.near (hq : Qe q q2) (c o l : Nat) (id : Int) : ∀ (r : List Int) (S S' : PS), Ev S S' → Ev (nearGo F T q bay hz c o l id r S) (nearGo F T q2 bay hz c o l id r S')
  | [], S, S', h => h
  | to :: r, S, S', h => by
    rw [nearGo, nearGo, hq.r, hq.t, hq.g]
    refine Ev.near hq c o l id r _ _ ?_
    split
    · exact h.reach _ _ _ _
    · exact h
theorem Ev.expand (hq : Qe q q2) {S S' : PS} (h : Ev S S') (x : Nd) (id : Int) : Ev (S.expand F T q bay hz x id) (S'.expand F T q2 bay hz x id) := by
  unfold PS.expand
  refine Ev.near hq _ _ _ _ _ _ _ ?_
  have h1 : Ev (S.exp1 F T q bay hz x.c x.o x.l id) (S'.exp1 F T q2 bay hz x.c x.o x.l id) := by
    unfold PS.exp1
    rw [hq.g, hq.r, hq.t]
    split
    · split
      · exact h.reach _ _ _ _
      · exact h
    · exact h
  unfold PS.exp2
  rw [hq.g, hq.r, hq.t]
  split
  · exact h1.reach _ _ _ _
  · exact h1
theorem srch_x : ∀ (k e : Nat) (S : PS), (PS.srch F T q bay hz k e S).2.c = 0 → (e : Int) < (PS.srch F T q bay hz k e S).2.x
  | 0, e, S, hc => by
    rw [PS.srch] at hc
    split at hc <;> simp [Pl.fail] at hc
  | k + 1, e, S, hc => by
    rw [PS.srch] at hc ⊢
    by_cases h1 : S.hp = []
    · rw [if_pos h1] at hc; simp [Pl.fail] at hc
    · rw [if_neg h1] at hc ⊢
      split
      · unfold Pl.trace; simp only; omega
      · rename_i h2
        rw [if_neg h2] at hc
        have := srch_x k (e + 1) _ hc
        omega
/-- With a limit below what was expanded the search is exhausted. -/
theorem srch_low (hq : Qe q q2) : ∀ (k k2 e e2 : Nat) (S S' : PS), Ev S S' → (PS.srch F T q bay hz k e S).2.c = 0 → (e : Int) + k2 + 1 = (PS.srch F T q bay hz k e S).2.x → (PS.srch F T q2 bay hz k2 e2 S').2.c = 5
  | 0, k2, e, e2, S, S', h, hc, hx => by
    rw [PS.srch] at hc
    split at hc <;> simp [Pl.fail] at hc
  | k + 1, k2, e, e2, S, S', h, hc, hx => by
    rw [PS.srch] at hc hx
    by_cases h1 : S.hp = []
    · rw [if_pos h1] at hc; simp [Pl.fail] at hc
    rw [if_neg h1] at hc hx
    have h1' : S'.hp ≠ [] := by rw [h.hp]; exact h1
    by_cases h2 : T.arrd q bay (S.nd.getD (S.hp.getD (best S.hp) It.nil).v Nd.nil) = true
    · rw [if_pos h2] at hx
      unfold Pl.trace at hx
      simp only at hx
      obtain rfl : k2 = 0 := by omega
      rw [PS.srch, if_neg h1']
      rfl
    · rw [if_neg h2] at hc hx
      have hlt := srch_x k (e + 1) _ hc
      obtain ⟨k3, rfl⟩ : ∃ k3, k2 = k3 + 1 := ⟨k2 - 1, by omega⟩
      rw [PS.srch, if_neg h1', h.hp, h.nd]
      have h3 : ¬ T.arrd q2 bay (S.nd.getD (S.hp.getD (best S.hp) It.nil).v Nd.nil) = true := by
        unfold TS.arrd at h2 ⊢
        rw [hq.g, hq.r, hq.t]
        exact h2
      rw [if_neg h3]
      refine srch_low hq k k3 (e + 1) (e2 + 1) _ _ (Ev.expand hq (S := { S with hp := S.hp.eraseIdx (best S.hp) }) (S' := { hp := S.hp.eraseIdx (best S.hp), nd := S.nd, ms := S'.ms, seen := S'.seen, st := S'.st }) ⟨rfl, rfl, h.se⟩ _ _) hc (by omega)
end
end Go.Proofs.Qxb6500716a
