/-
  Plain: the estimate is consistent.
-/
import Derived.Test.Qxb6500716aFe
namespace Go.Proofs.Qxb6500716a
open Go.RowKit Go.Maps
set_option linter.unusedSimpArgs false
set_option linter.unusedVariables false
set_option maxRecDepth 20000
set_option maxHeartbeats 4000000
theorem est_near {F : FS} (hF : FOk F) (bay : Int) (gl : List (Int × Int)) (c nb j : Nat) (hn : nb < F.n) (h : (nb : Int) ∈ F.near c) : F.est bay gl c j ≤ 1 + F.est bay gl nb j := by
  unfold FS.est
  have h1 := hF.tri c (ETg bay (gl.drop j)).toNat nb hn
  have h2 := (hF.one c nb hn).2 h
  omega
theorem est_goal {F : FS} (hF : FOk F) (bay : Int) (gl : List (Int × Int)) (c j : Nat) (g : Int × Int) (hg : gl[j]? = some g) (hc : g.1 = (c : Int)) : F.est bay gl c j = g.2.toNat + F.est bay gl c (j + 1) := by
  have hj := (List.getElem?_eq_some_iff.1 hg)
  have hd : gl.drop j = g :: gl.drop (j + 1) := by rw [List.drop_eq_getElem_cons hj.1, hj.2]
  unfold FS.est
  rw [hd]
  simp only [ETg, EAf, hc, Int.toNat_natCast, hF.zero]
  omega
theorem est_home {F : FS} (hF : FOk F) (bay : Int) (gl : List (Int × Int)) : F.est bay gl bay.toNat gl.length = 0 := by
  unfold FS.est
  rw [List.drop_eq_nil_of_le (Nat.le_refl _)]
  simp only [ETg, EAf, hF.zero]
end Go.Proofs.Qxb6500716a
