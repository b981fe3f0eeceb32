/-
  Refines, plain: the search without a bound on its limit; the model's answer.
-/
import Derived.Test.Qxb6500716aAr
import Derived.Test.Qxb6500716aFv
namespace Go.Proofs.Qxb6500716a
open Go.RowKit Go.Maps
set_option linter.unusedSimpArgs false
set_option linter.unusedVariables false
set_option maxRecDepth 20000
set_option maxHeartbeats 4000000
section
variable {F : FS} {T : TS} {q : Rq} {S : PS} {bay hz : Int}
/-- What the search answers, whatever the limit. -/
theorem srch_best2 (hF : FOk F) (hb : 0 ≤ bay) (hs : q.s.toNat < F.n) : ∀ (k e : Nat) (X : List Nat) (S : PS), Ast F T q bay hz X X S → X.length = e →
    ((PS.srch F T q bay hz k e S).2.c = 0 ∧ ∃ y : Nd, Rch F T q y.c y.o y.l ∧ T.arrd q bay y = true ∧ (PS.srch F T q bay hz k e S).2.path.length = y.o + 1 ∧ (y.o : Int) ≤ hz ∧ ∀ z : Nd, Rch F T q z.c z.o z.l → T.arrd q bay z = true → y.o ≤ z.o) ∨
    ((PS.srch F T q bay hz k e S).2.c = 4 ∧ ∀ z : Nd, Rch F T q z.c z.o z.l → T.arrd q bay z = true → hz < (z.o : Int)) ∨
    ((PS.srch F T q bay hz k e S).2.c = 5 ∧ e + k < stN2 F q hz) := by
  have hnil : ∀ (k e : Nat) (X : List Nat) (S : PS), Ast F T q bay hz X X S → S.hp = [] → (PS.srch F T q bay hz k e S).2.c = 4 ∧ ∀ z : Nd, Rch F T q z.c z.o z.l → T.arrd q bay z = true → hz < (z.o : Int) := fun k e X S h h1 => by
    refine ⟨srch_nil h1 k e, fun z hr ha => ?_⟩
    have hk := arrd_key hF hb ha
    rcases Int.lt_or_le hz (z.o : Int) with h2 | h2
    · exact h2
    · exfalso
      have := h.none hF hs z.o h2 (fun x hx => by rw [h1] at hx; cases hx) (p := z.p) hr (by omega)
      rw [ha] at this
      cases this
  intro k
  induction k with
  | zero =>
    intro e X S h he
    by_cases h1 : S.hp = []
    · exact Or.inr (Or.inl (hnil 0 e X S h h1))
    · refine Or.inr (Or.inr ⟨by rw [PS.srch, if_neg h1]; rfl, ?_⟩)
      have h2 := h.cnt
      have h3 := cntT_le2 (fun j => S.seen (j : Int)) (stN2 F q hz)
      rw [h.ct] at h3
      have h4 : 0 < S.hp.length := List.length_pos_iff.2 h1
      omega
  | succ k ih =>
    intro e X S h he
    by_cases h1 : S.hp = []
    · exact Or.inr (Or.inl (hnil (k + 1) e X S h h1))
    obtain ⟨a, x, b, g1, g2, g3, g4⟩ := best_split h1
    have hx : S.hp.getD (best S.hp) It.nil = x := by rw [g2, g1]; exact getD_mid a b x
    have hmem : x ∈ S.hp := by rw [g1]; simp
    obtain ⟨y, hy, hk⟩ := h.hv x hmem
    have hyd : S.nd.getD x.v Nd.nil = y := by rw [List.getD_eq_getElem?_getD, hy]; rfl
    have her : S.hp.eraseIdx (best S.hp) = a ++ b := by rw [g2, g1]; exact erase_mid a b x
    rw [PS.srch, if_neg h1, hx, hyd, her]
    by_cases h2 : T.arrd q bay y = true
    · rw [if_pos h2]
      left
      have hyk := arrd_key hF hb h2
      have hyz := (h.n x.v y hy).2
      refine ⟨rfl, y, h.n.rch (x.v + 1) x.v y (by omega) hy, h2, ?_, by omega, fun z hr ha => ?_⟩
      · unfold Pl.trace
        simp only
        rw [lst_len, hyd]
      · have hzk := arrd_key hF hb ha
        rcases Nat.lt_or_ge z.o y.o with h3 | h3
        · exfalso
          have := h.none hF hs z.o (by omega) (fun w hw => by
            have hwk : x.k ≤ w.k := by
              rw [g1] at hw
              rcases List.mem_append.1 hw with hw | hw
              · have := g3 w hw
                unfold It.lt at this
                simp at this
                omega
              · rcases List.mem_cons.1 hw with rfl | hw
                · exact Nat.le_refl _
                · have := g4 w hw
                  unfold It.lt at this
                  simp at this
                  omega
            omega) (p := z.p) hr (by omega)
          rw [ha] at this
          cases this
        · exact h3
    · rw [if_neg h2]
      have := ih (e + 1) (x.v :: X) _ (h.next hF g1 hy (by simpa using h2)) (by simp; omega)
      rw [show e + (k + 1) = e + 1 + k by omega]
      exact this
/-- What the model's Solve may answer. -/
def slvR (F : FS) (T : TS) (q : Rq) (code : Nat) (arr : Int) : Prop :=
  (rcode F T q ≠ 0 ∧ code = 2 ∧ arr = 0) ∨ (rcode F T q = 0 ∧ ((T.blk q F.bays.length = true ∧ code = 3 ∧ arr = 0) ∨ (T.blk q F.bays.length = false ∧ Solved F T q (F.park q.r).1 (q.hz T) code arr)))
theorem states_nat (hF : FOk F) (h0 : rcode F T q = 0) : (stN2 F q (q.hz T) : Int) = q.states F T := by
  have hz := (rok_of hF h0).hz
  unfold stN2 Rq.states
  rw [Int.natCast_mul, Int.natCast_mul]
  rw [show (((q.hz T).toNat + 1 : Nat) : Int) = q.hz T + 1 by omega, show ((q.gl.length + 1 : Nat) : Int) = (q.gl.length : Int) + 1 by omega]
/-- The planner answers as the model does, or its limit is below the number of states. -/
theorem search_slv (hF : FOk F) (hT : TInv T) (hC : T.Cel) (hnr : T.nr = F.bays.length) (hnc : T.nc = F.n) {code : Nat} {arr : Int} (h : slvR F T q code arr) :
    ((PS.search F T q S).2.c = code ∧ (code = 0 → q.t + ((PS.search F T q S).2.path.length : Int) - 1 = arr)) ∨ ((PS.search F T q S).2.c = 5 ∧ rcode F T q = 0 ∧ (code = 0 ∨ code = 4) ∧ q.m < q.states F T) := by
  rcases h with ⟨h0, rfl, rfl⟩ | ⟨h0, h⟩
  · left
    unfold PS.search
    rw [if_pos h0]
    rcases rcode_is F T q with h1 | h1
    · exact absurd h1 h0
    · rw [h1]
      exact ⟨rfl, fun h => by cases h⟩
  · have hb := blk_free hF hT hC hnr hnc h0
    have hrk := rok_of hF h0
    rcases h with ⟨h1, rfl, rfl⟩ | ⟨h1, h2⟩
    · left
      rw [h1] at hb
      have hsf : T.sfree q = false := by cases hx : T.sfree q with
        | false => rfl
        | true => rw [hx] at hb; cases hb
      unfold PS.search
      rw [if_neg (by rw [h0]; simp), if_pos hsf]
      exact ⟨rfl, fun h => by cases h⟩
    · rw [h1] at hb
      have hsf : T.sfree q = true := by cases hx : T.sfree q with
        | true => rfl
        | false => rw [hx] at hb; cases hb
      have hs : q.s.toNat < F.n := by have := hrk.s; omega
      have h3 := srch_best2 hF hrk.bay.1 hs q.m.toNat 0 [] _ (ast_beg (S := S) (T := T) (q := q) (bay := (F.park q.r).1) (hz := q.hz T) hF hs) rfl
      rw [← search_eq (S := S) h0 hsf] at h3
      rcases h3 with h3 | h3 | ⟨h3, h4⟩
      · exact Or.inl (agree h2 (Or.inl h3))
      · exact Or.inl (agree h2 (Or.inr h3))
      · right
        refine ⟨h3, h0, ?_, ?_⟩
        · rcases h2.ex with ⟨h5, -⟩ | ⟨h5, -⟩
          · exact Or.inl h5
          · exact Or.inr h5
        · have h5 := states_nat hF h0
          have h6 := hrk.m
          omega
end
end Go.Proofs.Qxb6500716a
