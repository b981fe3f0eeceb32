/-
  The estimate is exact (plain): at a fixed point of the relaxation the rows are the estimate.
-/
import Derived.Test.Qxb6500716aEm
import Derived.Test.Qxb6500716aEx
import Derived.Test.Qxb6500716aBb
namespace Go.Proofs.Qxb6500716a
open Go.RowKit Go.Maps
set_option linter.unusedSimpArgs false
set_option linter.unusedVariables false
set_option maxRecDepth 20000
set_option maxHeartbeats 4000000
section
variable {F : FS} {gl : List (Int × Int)} {bay : Int} {L : Nat → Nat → Nat}
theorem fix_row (hF : FOk F) (hE : FEx F) (l t v : Nat) (ht : t < F.n) (h0 : L l t ≤ v) (hx : ∀ c, c < F.n → Fx1 F gl L l c) : ∀ (m c : Nat), c < F.n → F.dist c t = m → L l c ≤ m + v := by
  intro m
  induction m with
  | zero =>
    intro c hc hd
    by_cases e : c = t
    · subst e; omega
    · have := hF.pos c t e
      omega
  | succ m ih =>
    intro c hc hd
    by_cases e : c = t
    · subst e
      omega
    · obtain ⟨x, h1, h2, h3⟩ := hE c t hc ht e
      have h4 := ih x h1 (by omega)
      have h5 := (hx c hc).1 x h2
      omega
theorem fix_est (hF : FOk F) (hE : FEx F) (hg : F.gok gl) (hb : 0 ≤ bay ∧ bay < (F.n : Int)) (hZ : L gl.length bay.toNat = 0) (hx : ∀ l c, l ≤ gl.length → c < F.n → Fx1 F gl L l c) : ∀ (m l : Nat), l + m = gl.length → ∀ c, c < F.n → L l c ≤ F.est bay gl c l := by
  intro m
  induction m with
  | zero =>
    intro l hl c hc
    have e : gl.drop l = [] := List.drop_eq_nil_of_le (by omega)
    have hl' : l = gl.length := by omega
    unfold FS.est
    rw [e]
    show L l c ≤ F.dist c bay.toNat + 0
    exact fix_row hF hE l bay.toNat 0 (by omega) (by rw [hl', hZ]; omega) (fun c hc => hx l c (by omega) hc) _ c hc rfl
  | succ m ih =>
    intro l hl c hc
    have hlt : l < gl.length := by omega
    have hgm := hg.2 _ (List.getElem_mem hlt)
    have e : gl.drop l = gl[l] :: gl.drop (l + 1) := List.drop_eq_getElem_cons hlt
    have h1 := ih (l + 1) (by omega) gl[l].1.toNat (by omega)
    have h2 := (hx l gl[l].1.toNat (by omega) (by omega)).2 gl[l] (List.getElem?_eq_getElem hlt) (by omega)
    unfold FS.est at h1 ⊢
    rw [e]
    show L l c ≤ F.dist c gl[l].1.toNat + (gl[l].2.toNat + F.dist gl[l].1.toNat (ETg bay (gl.drop (l + 1))).toNat + EAf F bay (gl.drop (l + 1)))
    exact fix_row hF hE l gl[l].1.toNat _ (by omega) (by omega) (fun c hc => hx l c (by omega) hc) _ c hc rfl
end
/-- Behind every world all distances are those of walks. -/
def Dk.fex (D : Dk) : Prop := ∀ X, D.W = some X → FEx X.F
theorem step_fex (D : Dk) (o : Opr) (h : D.fex) : (D.step o).1.fex := by
  intro Y hY
  by_cases h0 : o.K = 0
  · unfold Dk.step at hY
    rw [if_pos h0] at hY
    unfold wldAns at hY
    split at hY
    · exact h Y hY
    · rename_i F hF
      split at hY
      · exact h Y hY
      · simp only [Option.some.injEq] at hY
        rw [← hY]
        exact new_ex hF
  · cases hW : D.W with
    | none =>
      rw [step_off D o h0 hW] at hY
      cases hY
    | some X =>
      obtain ⟨Z, h1, h2, -⟩ := step_on D o h0 X hW
      rw [h1] at hY
      obtain rfl := Option.some.inj hY
      rw [h2]
      exact h X hW
end Go.Proofs.Qxb6500716a
