/-
  Step: every kind but requests, said with the desk's own step.
-/
import Derived.Test.Qxb6500716aMh
import Derived.Test.Qxb6500716aMi
import Derived.Test.Qxb6500716aMj
import Derived.Test.Qxb6500716aDj
namespace Go.Proofs.Qxb6500716a
open Go.RowKit Go.Maps
set_option linter.unusedSimpArgs false
set_option linter.unusedVariables false
set_option maxRecDepth 20000
set_option maxHeartbeats 4000000
def mw (X : Wd) : MW := ⟨X.F, X.T⟩
/-- A request in due form. -/
def isRq (D : Dk) (o : Opr) : Prop := (o.K = 5 ∨ o.K = 6) ∧ ¬ o.l.length % 2 = 1 ∧ D.W ≠ none
theorem stepM (mb : Nat) (fv tv : Value) (o : Opr) (v : Value) (lab : Nat → Nat) (w : World) (D : Dk) (h : MdAt w lab mb fv tv (D.W.map mw)) (hv : Ints w lab v o.l) (hO : OpI o) (hX : ∀ X, D.W = some X → X.T.held ≤ X.T.cap ∧ FEx X.F) (hn : ¬ isRq D o) :
    Calls Try.prog 13 #[.pointer (some ⟨mb, 0, none⟩), .agg #[.int .i64 ((o).K), .int .i64 ((o).A), .int .i64 ((o).B), .int .i64 ((o).C), .int .i64 ((o).D), .int .i64 ((o).E), v]] w (stPost lab mb ((D.step o).1.W.map mw, (D.step o).2) w) := by
  unfold Dk.step
  by_cases h0 : o.K = 0
  · rw [if_pos h0]
    have he : ((wldAns D o).1.W.map mw, (wldAns D o).2) = mwAns (D.W.map mw) o := by
      unfold wldAns mwAns
      cases hFN : FS.new o.A o.B o.C o.l with
      | none => rfl
      | some F =>
        simp only
        by_cases hc : o.D < (F.bays.length : Int) ∨ 1536 < o.D
        · rw [if_pos hc, if_pos hc]; rfl
        · rw [if_neg hc, if_neg hc]; rfl
    rw [he]
    exact st_world mb fv tv o v lab w _ h hv h0
  · rw [if_neg h0]
    cases hW : D.W with
    | none =>
      rw [hW] at h
      have hd : D.no.W = none := hW
      simp only
      rw [hd]
      exact st_none mb fv tv o v lab w h hv h0
    | some X =>
      rw [hW] at h
      have hd : D.no.W = some X := hW
      obtain ⟨hh, hE⟩ := hX X hW
      simp only
      by_cases h1 : o.K = 1
      · rw [if_pos h1]; exact st_adv mb fv tv o v lab w (mw X) h hv h1
      rw [if_neg h1]
      by_cases h2 : o.K = 2
      · rw [if_pos h2]; exact st_block mb fv tv o v lab w (mw X) h hv hO h2 hh
      rw [if_neg h2]
      by_cases h3 : o.K = 3
      · rw [if_pos h3]; exact st_stand mb fv tv o v lab w (mw X) h hv h3 hh
      rw [if_neg h3]
      by_cases h4 : o.K = 4
      · rw [if_pos h4]; exact st_trunc mb fv tv o v lab w (mw X) h hv hO h4
      rw [if_neg h4]
      by_cases h5 : o.K = 5
      · rw [if_pos h5]
        by_cases ho : o.l.length % 2 = 1
        · rw [if_pos ho, hd]; exact st_odd5 mb fv tv o v lab w (mw X) h hv hO h5 ho
        · exact absurd ⟨Or.inl h5, ho, by rw [hW]; simp⟩ hn
      rw [if_neg h5]
      by_cases h6 : o.K = 6
      · rw [if_pos h6]
        by_cases ho : o.l.length % 2 = 1
        · rw [if_pos ho, hd]; exact st_odd6 mb fv tv o v lab w (mw X) h hv hO h6 ho
        · exact absurd ⟨Or.inr h6, ho, by rw [hW]; simp⟩ hn
      rw [if_neg h6]
      by_cases h7 : o.K = 7
      · rw [if_pos h7, hd]; exact st_est mb fv tv o v lab w (mw X) h hv hO hE h7
      · rw [if_neg h7, hd]; exact st_bad mb fv tv o v lab w (mw X) h hv (by omega)
end Go.Proofs.Qxb6500716a
