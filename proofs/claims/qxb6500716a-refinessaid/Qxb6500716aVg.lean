/-
  Plain: behind a step that found a plan it is valid; a request stays in due form while the window slides.
-/
import Derived.Test.Qxb6500716aFv
import Derived.Test.Qxb6500716aDm
namespace Go.Proofs.Qxb6500716a
open Go.RowKit Go.Maps
set_option linter.unusedSimpArgs false
set_option linter.unusedVariables false
set_option maxRecDepth 20000
set_option maxHeartbeats 4000000
theorem step_val (D : Dk) (o : Opr) (hF : ∀ X, D.W = some X → FOk X.F ∧ X.S.ms ≤ 4000000 ∧ TInv X.T ∧ X.T.nr = X.F.bays.length) (hask : (D.step o).1.ask = true) (hc : (D.step o).1.pl.c = 0) :
    ∃ X T S, D.W = some X ∧ (D.step o).1.W = some ⟨X.F, T, S⟩ ∧ (D.step o).1.q = rqOf o ∧ (D.step o).1.pl.t = (rqOf o).t ∧ Found X.F X.T (rqOf o) (D.step o).1.pl ∧ val X.F T (rqOf o) 0 (rqOf o).t (D.step o).1.pl.path (D.step o).1.pl.done = true ∧ T.base = X.T.base ∧ (o.K = 5 ∨ o.K = 6) := by
  unfold Dk.step at hask hc ⊢
  by_cases h0 : o.K = 0
  · rw [if_pos h0] at hask
    unfold wldAns at hask
    split at hask
    · cases hask
    · split at hask <;> cases hask
  rw [if_neg h0] at hask hc ⊢
  cases hW : D.W with
  | none => rw [hW] at hask; cases hask
  | some X =>
    rw [hW] at hask hc
    simp only at hask hc ⊢
    obtain ⟨hX, hms, hTI, hnr⟩ := hF X hW
    by_cases h1 : o.K = 1
    · rw [if_pos h1] at hask; cases hask
    rw [if_neg h1] at hask hc ⊢
    by_cases h2 : o.K = 2
    · rw [if_pos h2] at hask; cases hask
    rw [if_neg h2] at hask hc ⊢
    by_cases h3 : o.K = 3
    · rw [if_pos h3] at hask; cases hask
    rw [if_neg h3] at hask hc ⊢
    by_cases h4 : o.K = 4
    · rw [if_pos h4] at hask; cases hask
    rw [if_neg h4] at hask hc ⊢
    by_cases h5 : o.K = 5
    · rw [if_pos h5] at hask hc ⊢
      by_cases ho : o.l.length % 2 = 1
      · rw [if_pos ho] at hask; cases hask
      rw [if_neg ho] at hc ⊢
      simp only at hc ⊢
      by_cases hs : (PS.search X.F X.T (rqOf o) X.S).2.c = 0
      · have hfd := search_good hX hms hs
        have htt := (search_pl (T := X.T) (q := rqOf o) hX hms).t
        by_cases he : (X.T.enter (rqOf o).r (rqOf o).t (PS.search X.F X.T (rqOf o) X.S).2.path).1 = 0
        · have hp : (PS.plan X.F X.T (rqOf o) X.S).2 = ((X.T.enter (rqOf o).r (rqOf o).t (PS.search X.F X.T (rqOf o) X.S).2.path).2, (PS.search X.F X.T (rqOf o) X.S).2) := by
            unfold PS.plan
            rw [if_pos hs]
            unfold entP
            rw [if_neg (by rw [he]; simp)]
          refine ⟨X, _, _, rfl, rfl, trivial, ?_, ?_, ?_, ?_, Or.inl h5⟩
          · rw [hp]; exact htt
          · rw [hp]; exact hfd
          · rw [hp]; exact hfd.entVal hX hTI hnr he
          · rw [hp]; exact enter_base _ _ _ _
        · exfalso
          unfold PS.plan at hc
          rw [if_pos hs] at hc
          unfold entP at hc
          rw [if_pos he] at hc
          exact he hc
      · exfalso
        unfold PS.plan at hc
        rw [if_neg hs] at hc
        exact hs hc
    rw [if_neg h5] at hask hc ⊢
    by_cases h6 : o.K = 6
    · rw [if_pos h6] at hask hc ⊢
      by_cases ho : o.l.length % 2 = 1
      · rw [if_pos ho] at hask; cases hask
      rw [if_neg ho] at hc ⊢
      simp only at hc ⊢
      unfold PS.ask at hc ⊢
      simp only at hc ⊢
      have hfd := search_good hX hms hc
      exact ⟨X, _, _, rfl, rfl, trivial, (search_pl (T := X.T) (q := rqOf o) hX hms).t, hfd, hfd.isVal hX hTI hnr, rfl, Or.inr h6⟩
    rw [if_neg h6] at hask
    by_cases h7 : o.K = 7
    · rw [if_pos h7] at hask; cases hask
    · rw [if_neg h7] at hask; cases hask
/-- A request that was in due form is so while the window has not slid past it. -/
theorem rcode_slid {F : FS} {T T' : TS} {q : Rq} (h : rcode F T q = 0) (h1 : T.base ≤ T'.base) (h2 : (T'.base : Int) ≤ q.t) : rcode F T' q = 0 := by
  obtain ⟨⟨a1, a2, a3, a4, a5⟩, a6⟩ := rcode_ok h
  unfold rcode
  rw [if_pos ⟨a1, a2, ⟨h2, by omega⟩, a4, a5⟩]
  exact gcode_ok.2 a6
/-- The done ticks of a found plan. -/
theorem Found.dones {F : FS} {T : TS} {q : Rq} {p : Pl} (hF : FOk F) (h : Found F T q p) : p.done.length = q.gl.length ∧ ∀ y, y ∈ p.done → q.t ≤ y ∧ y ≤ q.t + 255 := by
  obtain ⟨y, P, D, y1, y2, y3, y4, y5, y6, y7⟩ := h.ex
  have hz := (rok_of hF h.rc).hz
  refine ⟨by rw [y2, lst_len], fun a ha => ?_⟩
  obtain ⟨j, hj⟩ := List.mem_iff_getElem?.1 ha
  have hjl := (List.getElem?_eq_some_iff.1 hj).1
  rw [y2, lst_len] at hjl
  rw [y2, lst_at _ _ _ hjl] at hj
  simp only [Option.some.injEq] at hj
  subst hj
  have := y3.do1 j (by omega)
  omega
end Go.Proofs.Qxb6500716a
