/-
  Plain: a plan that was found meets its goals in order.
-/
import Derived.Test.Qxb6500716aLh
import Derived.Test.Qxb6500716aVa
namespace Go.Proofs.Qxb6500716a
open Go.RowKit Go.Maps
set_option linter.unusedSimpArgs false
set_option linter.unusedVariables false
set_option maxRecDepth 20000
set_option maxHeartbeats 4000000
theorem Found.meets {F : FS} {T : TS} {q : Rq} {p : Pl} (hF : FOk F) (h : Found F T q p) : ∃ s, GMt p.path q.gl s := by
  have hk := rok_of hF h.rc
  obtain ⟨y, P, D, h1, -, h3, h4, h5, h6, h7⟩ := h.ex
  have hlen : p.path.length = y.o + 1 := by rw [h1, lst_len]
  have hat : ∀ j, j < y.o + 1 → p.path[j]? = some (P j) := fun j hj => by rw [h1]; exact lst_at _ _ _ hj
  have hs : ∀ (j : Nat) (g : Int × Int), q.gl[j]? = some g → (D j - (q.gl.getD j (0, 0)).2.toNat - q.t).toNat + g.2.toNat = (D j - q.t).toNat ∧ q.t ≤ D j - g.2.toNat ∧ D j ≤ q.t + y.o := fun j g hg => by
    have hj : j < q.gl.length := (List.getElem?_eq_some_iff.1 hg).1
    have hgd : q.gl.getD j (0, 0) = g := by rw [List.getD_eq_getElem?_getD, hg]; rfl
    obtain ⟨a1, a2, -⟩ := h3.dn j g (by omega) hg
    have h0 : q.t ≤ D j - g.2.toNat := by
      split at a1
      · exact a1
      · have := (h3.do1 (j - 1) (by omega)).1
        omega
    rw [hgd]
    omega
  refine ⟨fun j => (D j - (q.gl.getD j (0, 0)).2.toNat - q.t).toNat, fun j g hg => ?_⟩
  obtain ⟨b1, b2, b3⟩ := hs j g hg
  have hj : j < q.gl.length := (List.getElem?_eq_some_iff.1 hg).1
  have hgd : q.gl.getD j (0, 0) = g := by rw [List.getD_eq_getElem?_getD, hg]; rfl
  obtain ⟨a1, a2, a3⟩ := h3.dn j g (by omega) hg
  have hg2 := hk.gok.2 g (List.mem_iff_getElem?.2 ⟨j, hg⟩)
  refine ⟨by omega, fun i g' hi hg' => ?_, ?_, fun b hb1 hb2 => ?_⟩
  · obtain ⟨c1, c2, c3⟩ := hs i g' hg'
    simp only
    rw [c1, hgd]
    rw [if_neg (by omega), show j - 1 = i by omega] at a1
    omega
  · simp only
    rw [b1, hlen]
    omega
  · simp only at hb1 hb2
    rw [b1] at hb2
    rw [hgd] at hb1
    rw [hat b (by omega)]
    have := a3 (q.t + b) (by omega) (by omega)
    rw [show (q.t + (b : Int) - q.t).toNat = b by omega] at this
    rw [this]
end Go.Proofs.Qxb6500716a
