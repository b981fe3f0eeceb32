/-
  Plain: a request that was answered with a plan.
-/
import Derived.Test.Qxb6500716aDl
import Derived.Test.Qxb6500716aEp
import Derived.Test.Qxb6500716aCg
namespace Go.Proofs.Qxb6500716a
open Go.RowKit Go.Maps
set_option linter.unusedSimpArgs false
set_option linter.unusedVariables false
set_option maxRecDepth 20000
set_option maxHeartbeats 4000000
theorem Found.len {F : FS} {T : TS} {q : Rq} {p : Pl} (h : Found F T q p) : 1 ≤ p.path.length := by
  obtain ⟨y, P, D, h1, -⟩ := h.ex
  rw [h1, lst_len]
  omega
theorem Found.len2 {F : FS} {T : TS} {q : Rq} {p : Pl} (hF : FOk F) (h : Found F T q p) : p.path.length ≤ 256 := by
  obtain ⟨y, P, D, h1, -, -, -, -, -, h7⟩ := h.ex
  have := (rok_of hF h.rc).hz
  rw [h1, lst_len]
  omega
theorem Found.cell {F : FS} {T : TS} {q : Rq} {p : Pl} (hF : FOk F) (h : Found F T q p) : ∀ c, c ∈ p.path → 0 ≤ c ∧ c < (F.n : Int) := by
  obtain ⟨y, P, D, h1, -, h3, -⟩ := h.ex
  have hs := (rok_of hF h.rc).s
  have hP : ∀ j, j ≤ y.o → 0 ≤ P j ∧ P j < (F.n : Int) := fun j => by
    induction j with
    | zero => intro _; rw [h3.s]; exact hs
    | succ j ih =>
      intro hj
      rcases (h3.st j (by omega)).1 with h | h
      · rw [h]; exact ih (by omega)
      · have := hF.near _ _ h
        omega
  intro c hc
  obtain ⟨j, hj⟩ := List.mem_iff_getElem?.1 hc
  have hjl := (List.getElem?_eq_some_iff.1 hj).1
  rw [h1, lst_len] at hjl
  rw [h1, lst_at _ _ _ hjl] at hj
  simp only [Option.some.injEq] at hj
  subst hj
  exact hP j (by omega)
theorem step_none (D : Dk) (o : Opr) (h : D.W = none) : (D.step o).1.ask = false := by
  unfold Dk.step
  by_cases h0 : o.K = 0
  · rw [if_pos h0]
    unfold wldAns
    split
    · rfl
    · split <;> rfl
  · rw [if_neg h0, h]
    rfl
theorem step_found (D : Dk) (o : Opr) (hF : ∀ X, D.W = some X → FOk X.F ∧ X.S.ms ≤ 4000000) (hask : (D.step o).1.ask = true) (hc : (D.step o).1.pl.c = 0) :
    ∃ X T S, D.W = some X ∧ (D.step o).1.W = some ⟨X.F, T, S⟩ ∧ (D.step o).1.q = rqOf o ∧ (D.step o).1.pl.t = (rqOf o).t ∧ Found X.F X.T (rqOf o) (D.step o).1.pl ∧ ((o.K = 5 ∧ Ent X.T T (rqOf o).r (rqOf o).t (D.step o).1.pl.path) ∨ (o.K = 6 ∧ T = X.T)) := by
  unfold Dk.step at hask hc ⊢
  by_cases h0 : o.K = 0
  · rw [if_pos h0] at hask
    unfold wldAns at hask
    split at hask
    · cases hask
    · split at hask <;> cases hask
  rw [if_neg h0] at hask hc ⊢
  cases hW : D.W with
  | none => rw [hW] at hask; cases hask
  | some X =>
    rw [hW] at hask hc
    simp only at hask hc ⊢
    obtain ⟨hX, hms⟩ := hF X hW
    by_cases h1 : o.K = 1
    · rw [if_pos h1] at hask; cases hask
    rw [if_neg h1] at hask hc ⊢
    by_cases h2 : o.K = 2
    · rw [if_pos h2] at hask; cases hask
    rw [if_neg h2] at hask hc ⊢
    by_cases h3 : o.K = 3
    · rw [if_pos h3] at hask; cases hask
    rw [if_neg h3] at hask hc ⊢
    by_cases h4 : o.K = 4
    · rw [if_pos h4] at hask; cases hask
    rw [if_neg h4] at hask hc ⊢
    by_cases h5 : o.K = 5
    · rw [if_pos h5] at hask hc ⊢
      by_cases ho : o.l.length % 2 = 1
      · rw [if_pos ho] at hask; cases hask
      rw [if_neg ho] at hc ⊢
      simp only at hc ⊢
      by_cases hs : (PS.search X.F X.T (rqOf o) X.S).2.c = 0
      · have hfd := search_good hX hms hs
        have htt := (search_pl (T := X.T) (q := rqOf o) hX hms).t
        by_cases he : (X.T.enter (rqOf o).r (rqOf o).t (PS.search X.F X.T (rqOf o) X.S).2.path).1 = 0
        · have hp : (PS.plan X.F X.T (rqOf o) X.S).2 = ((X.T.enter (rqOf o).r (rqOf o).t (PS.search X.F X.T (rqOf o) X.S).2.path).2, (PS.search X.F X.T (rqOf o) X.S).2) := by
            unfold PS.plan
            rw [if_pos hs]
            unfold entP
            rw [if_neg (by rw [he]; simp)]
          have hk := rok_of hX hfd.rc
          refine ⟨X, _, _, rfl, rfl, trivial, ?_, ?_, Or.inl ⟨h5, ?_⟩⟩
          · rw [hp]; exact htt
          · rw [hp]; exact hfd
          · rw [hp]; exact enter_at hk.r.1 hk.t.1 (fun c hc => (hfd.cell hX c hc).1) hfd.len he
        · exfalso
          unfold PS.plan at hc
          rw [if_pos hs] at hc
          unfold entP at hc
          rw [if_pos he] at hc
          exact he hc
      · exfalso
        unfold PS.plan at hc
        rw [if_neg hs] at hc
        exact hs hc
    rw [if_neg h5] at hask hc ⊢
    by_cases h6 : o.K = 6
    · rw [if_pos h6] at hask hc ⊢
      by_cases ho : o.l.length % 2 = 1
      · rw [if_pos ho] at hask; cases hask
      rw [if_neg ho] at hc ⊢
      simp only at hc ⊢
      unfold PS.ask at hc ⊢
      simp only at hc ⊢
      exact ⟨X, _, _, rfl, rfl, trivial, (search_pl (T := X.T) (q := rqOf o) hX hms).t, search_good hX hms hc, Or.inr ⟨h6, rfl⟩⟩
    rw [if_neg h6] at hask
    by_cases h7 : o.K = 7
    · rw [if_pos h7] at hask; cases hask
    · rw [if_neg h7] at hask; cases hask
end Go.Proofs.Qxb6500716a
