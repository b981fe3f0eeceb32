/-
  Plain: a request that is asked again with a smaller horizon or limit; a step that failed.
-/
import Derived.Test.Qxb6500716aBs
import Derived.Test.Qxb6500716aEn
namespace Go.Proofs.Qxb6500716a
open Go.RowKit Go.Maps
set_option linter.unusedSimpArgs false
set_option linter.unusedVariables false
set_option maxRecDepth 20000
set_option maxHeartbeats 4000000
section
variable {F : FS} {T : TS} {q : Rq} {S S2 : PS}
theorem rcode_of (h : rcode F T q = 0) (q2 : Rq) (hq : Qe q q2) (hh : 0 ≤ q2.h ∧ q2.h ≤ 255) (hm : 1 ≤ q2.m ∧ q2.m ≤ 1048576) : rcode F T q2 = 0 := by
  obtain ⟨⟨h1, h2, h3, -, -⟩, h6⟩ := rcode_ok h
  unfold rcode
  rw [if_pos ⟨by rw [hq.r]; exact h1, by rw [hq.s]; exact h2, by rw [hq.t]; exact h3, hh, hm⟩, hq.g]
  exact gcode_ok.2 h6
theorem sfree_of (q2 : Rq) (hq : Qe q q2) : T.sfree q2 = T.sfree q := by
  unfold TS.sfree
  rw [hq.r, hq.t, hq.s]
theorem beg_bi (q2 : Rq) (bay h' : Int) : Bi F q.gl bay h' (S.beg F T q) (S2.beg F T q2) := by
  unfold PS.beg
  exact ⟨rfl, fun _ _ _ _ _ _ => rfl, fun x hx => (by cases hx), fun x hx => (by cases hx), fun x hx => (by cases hx), fun x hx => (by cases hx)⟩
theorem search_eq (h0 : rcode F T q = 0) (h1 : T.sfree q = true) : PS.search F T q S = PS.srch F T q (F.park q.r).1 (q.hz T) q.m.toNat 0 ((S.beg F T q).reach F q.gl (F.park q.r).1 (q.hz T) q.s.toNat 0 0 (-1)) := by
  unfold PS.search
  rw [if_neg (by rw [h0]; simp), if_neg (by rw [h1]; simp)]
theorem search_short (hF : FOk F) (hms : S.ms ≤ 4000000) (hc : (PS.search F T q S).2.c = 0) (h2 : 2 ≤ (PS.search F T q S).2.path.length) :
    (PS.search F T { q with h := ((PS.search F T q S).2.path.length : Int) - 2 } S2).2.c = 4 := by
  have hfd := search_good hF hms hc
  have hl := hfd.len2 hF
  have hrk := rok_of hF hfd.rc
  obtain ⟨len, hlen⟩ : ∃ y, (PS.search F T q S).2.path.length = y := ⟨_, rfl⟩
  have hy : (len : Int) - 1 ≤ q.hz T := by
    obtain ⟨y, P, D, y1, -, -, -, -, -, y7⟩ := hfd.ex
    rw [← hlen, y1, lst_len]
    omega
  rw [hlen] at h2 hl ⊢
  have hq : Qe q { q with h := (len : Int) - 2 } := ⟨rfl, rfl, rfl, rfl⟩
  have hz2 : Rq.hz { q with h := (len : Int) - 2 } T = (len : Int) - 2 := by
    unfold Rq.hz at hy ⊢
    simp only
    omega
  have h0 := rcode_of hfd.rc { q with h := (len : Int) - 2 } hq ⟨by simp only; omega, by simp only; omega⟩ hrk.m
  rw [search_eq h0 (by rw [sfree_of _ hq]; exact hfd.sf), hz2]
  have hs0 := hrk.s
  have hle : (len : Int) - 2 ≤ q.hz T := by omega
  have hsn : q.s.toNat < F.n := by omega
  have hbi := (beg_bi (F := F) (T := T) (q := q) (S := S) (S2 := S2) { q with h := (len : Int) - 2 } (F.park q.r).1 ((len : Int) - 2)).reach hle q.s.toNat 0 0 (-1) (-1) hsn (Nat.zero_le _)
  refine srch_short hF hq hle q.m.toNat 0 0 _ _ hbi ?_ ?_
  · rw [search_eq hfd.rc hfd.sf] at hc
    exact hc
  · rw [search_eq hfd.rc hfd.sf] at hlen
    rw [hlen]
    omega
theorem search_low (hF : FOk F) (hms : S.ms ≤ 4000000) (hc : (PS.search F T q S).2.c = 0) (h1 : 1 ≤ (PS.search F T q S).2.x - 1) :
    (PS.search F T { q with m := (PS.search F T q S).2.x - 1 } S2).2.c = 5 := by
  have hfd := search_good hF hms hc
  have hrk := rok_of hF hfd.rc
  have hx := search_x (T := T) (q := q) hF hms
  have hq : Qe q { q with m := (PS.search F T q S).2.x - 1 } := ⟨rfl, rfl, rfl, rfl⟩
  have h0 := rcode_of hfd.rc _ hq hrk.h ⟨h1, by simp only; omega⟩
  rw [search_eq h0 (by rw [sfree_of _ hq]; exact hfd.sf)]
  have hs : PS.search F T q S = _ := search_eq hfd.rc hfd.sf
  have hx2 : ((0 : Nat) : Int) + (((PS.search F T q S).2.x - 1).toNat : Int) + 1 = (PS.search F T q S).2.x := by omega
  obtain ⟨x, hxx⟩ : ∃ y, (PS.search F T q S).2.x = y := ⟨_, rfl⟩
  rw [hxx] at hx2 hq ⊢
  rw [hs] at hc hxx
  have hev : Ev ((S.beg F T q).reach F q.gl (F.park q.r).1 (q.hz T) q.s.toNat 0 0 (-1)) ((S2.beg F T { q with m := x - 1 }).reach F q.gl (F.park q.r).1 (q.hz T) q.s.toNat 0 0 (-1)) := Ev.reach (S := S.beg F T q) (S' := S2.beg F T { q with m := x - 1 }) ⟨rfl, rfl, rfl⟩ _ _ _ _
  exact srch_low (bay := (F.park q.r).1) (hz := q.hz T) hq q.m.toNat (x - 1).toNat 0 0 _ _ hev hc (by rw [hxx]; exact hx2)
/-- What a request that fails answers and leaves. -/
theorem plan_bad (hF : FOk F) (hms : S.ms ≤ 4000000) {c : Nat} (hc : (PS.search F T q S).2.c = c) (h0 : c ≠ 0) : (PS.plan F T q S).2.1 = T ∧ (PS.plan F T q S).2.2.c = c ∧ (PS.plan F T q S).2.2.path = [] := by
  have hp : PS.plan F T q S = ((PS.search F T q S).1.note (PS.search F T q S).2, T, (PS.search F T q S).2) := by
    unfold PS.plan
    rw [if_neg (by rw [hc]; exact h0)]
  rw [hp]
  exact ⟨rfl, hc, ((search_pl (T := T) (q := q) hF hms).no (by rw [hc]; exact h0)).1⟩
end
/-- A step that asked and failed leaves the table as it was. -/
theorem step_failed (D : Dk) (o : Opr) (hD : ∀ X, D.W = some X → FOk X.F ∧ TInv X.T ∧ WB X 1000000000000000) (hask : (D.step o).1.ask = true) (hc : (D.step o).1.pl.c ≠ 0) :
    ∃ X S, D.W = some X ∧ (D.step o).1.W = some ⟨X.F, X.T, S⟩ := by
  unfold Dk.step at hask hc ⊢
  by_cases h0 : o.K = 0
  · rw [if_pos h0] at hask
    unfold wldAns at hask
    split at hask
    · cases hask
    · split at hask <;> cases hask
  rw [if_neg h0] at hask hc ⊢
  cases hW : D.W with
  | none => rw [hW] at hask; cases hask
  | some X =>
    rw [hW] at hask hc
    simp only at hask hc ⊢
    obtain ⟨hX, hT, hB⟩ := hD X hW
    by_cases h1 : o.K = 1
    · rw [if_pos h1] at hask; cases hask
    rw [if_neg h1] at hask hc ⊢
    by_cases h2 : o.K = 2
    · rw [if_pos h2] at hask; cases hask
    rw [if_neg h2] at hask hc ⊢
    by_cases h3 : o.K = 3
    · rw [if_pos h3] at hask; cases hask
    rw [if_neg h3] at hask hc ⊢
    by_cases h4 : o.K = 4
    · rw [if_pos h4] at hask; cases hask
    rw [if_neg h4] at hask hc ⊢
    by_cases h5 : o.K = 5
    · rw [if_pos h5] at hask hc ⊢
      by_cases ho : o.l.length % 2 = 1
      · rw [if_pos ho] at hask; cases hask
      rw [if_neg ho] at hc ⊢
      simp only at hc ⊢
      have := plan_same hX hT hB.nr hB.nc hB.ms hc
      exact ⟨X, _, rfl, by rw [this]⟩
    rw [if_neg h5] at hask hc ⊢
    by_cases h6 : o.K = 6
    · rw [if_pos h6] at hask hc ⊢
      by_cases ho : o.l.length % 2 = 1
      · rw [if_pos ho] at hask; cases hask
      rw [if_neg ho]
      exact ⟨X, _, rfl, rfl⟩
    rw [if_neg h6] at hask
    by_cases h7 : o.K = 7
    · rw [if_pos h7] at hask; cases hask
    · rw [if_neg h7] at hask; cases hask
/-- A step that asked and found: the search's own answer. -/
theorem step_again (D : Dk) (o : Opr) (hask : (D.step o).1.ask = true) (hc : (D.step o).1.pl.c = 0) :
    ∃ X, D.W = some X ∧ (D.step o).1.pl = (PS.search X.F X.T (rqOf o) X.S).2 := by
  unfold Dk.step at hask hc ⊢
  by_cases h0 : o.K = 0
  · rw [if_pos h0] at hask
    unfold wldAns at hask
    split at hask
    · cases hask
    · split at hask <;> cases hask
  rw [if_neg h0] at hask hc ⊢
  cases hW : D.W with
  | none => rw [hW] at hask; cases hask
  | some X =>
    rw [hW] at hask hc
    simp only at hask hc ⊢
    refine ⟨X, rfl, ?_⟩
    by_cases h1 : o.K = 1
    · rw [if_pos h1] at hask; cases hask
    rw [if_neg h1] at hask hc ⊢
    by_cases h2 : o.K = 2
    · rw [if_pos h2] at hask; cases hask
    rw [if_neg h2] at hask hc ⊢
    by_cases h3 : o.K = 3
    · rw [if_pos h3] at hask; cases hask
    rw [if_neg h3] at hask hc ⊢
    by_cases h4 : o.K = 4
    · rw [if_pos h4] at hask; cases hask
    rw [if_neg h4] at hask hc ⊢
    by_cases h5 : o.K = 5
    · rw [if_pos h5] at hask hc ⊢
      by_cases ho : o.l.length % 2 = 1
      · rw [if_pos ho] at hask; cases hask
      rw [if_neg ho] at hc ⊢
      simp only at hc ⊢
      unfold PS.plan at hc ⊢
      by_cases hs : (PS.search X.F X.T (rqOf o) X.S).2.c = 0
      · rw [if_pos hs] at hc ⊢
        simp only at hc ⊢
        unfold entP at hc ⊢
        split
        · rename_i he
          rw [if_pos he] at hc
          exact absurd hc he
        · rfl
      · rw [if_neg hs]
    rw [if_neg h5] at hask hc ⊢
    by_cases h6 : o.K = 6
    · rw [if_pos h6] at hask hc ⊢
      by_cases ho : o.l.length % 2 = 1
      · rw [if_pos ho] at hask; cases hask
      rw [if_neg ho]
      rfl
    rw [if_neg h6] at hask
    by_cases h7 : o.K = 7
    · rw [if_pos h7] at hask; cases hask
    · rw [if_neg h7] at hask; cases hask
end Go.Proofs.Qxb6500716a
