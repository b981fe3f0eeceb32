/-
  The listed variables opened.
-/
import Derived.Test.Qxb6500715aDoorScript
namespace Go.Proofs.Qxb6500715aDoor
open Go.ChangeShapes Go.WideShapes Go.ChangeAt Go.RowKit Go.Deep
set_option linter.unusedSimpArgs false
set_option linter.unusedVariables false

theorem own : ownKnob Tryd.prog.godebug = none := by kernel_rfl
theorem gAcc : Tryd.prog.globalNamed (Rows.encodingRoundTripsRow.named.headD default) = some 0 := by kernel_rfl
theorem tAcc : (Tryd.prog.globals[0]?).map (·.type) = some 69 := by kernel_rfl
theorem laidOut : laidOutB Tryd.prog = true := by kernel_rfl

abbrev laid1 : List (String × DataW Unit) := Rows.encodingRoundTripsRow.laid

theorem two_of {α : Type} {l : List α} (h : l.length = 2) : ∃ a b, l = [a, b] :=
  match l, h with
  | [a, b], _ => ⟨a, b, rfl⟩

theorem globs_of {W : World} (h : laidMetH Tryd.prog laid1 W) : Globs W := by
  rw [MakeChecks.laidMetH_plain _ _ _ (by kernel_rfl)] at h
  obtain ⟨ps, ⟨g0, t0, cs0, f0, p0, q0, hg0, ht0, hv0, hd0, _, _⟩, _, _⟩ := h
  obtain rfl := Option.some.inj (gAcc.symm.trans hg0)
  obtain rfl := Option.some.inj (tAcc.symm.trans ht0)
  obtain ⟨y0, y1, m, hx, hl, h0, h1⟩ := trod_struct2 Tryd.underlying69 hd0
  have c69 : Tryd.prog.cellsOf 69 = 2 := by kernel_rfl
  have c68 : Tryd.prog.cellsOf 67 = 1 := by kernel_rfl
  obtain ⟨cs⟩ := cs0
  rw [c69] at hl
  simp only [cells3, c68] at h0 h1
  obtain ⟨a0, a1, rfl⟩ := two_of hl
  simp only [List.drop_zero, List.drop_succ_cons, List.take_succ_cons, List.take_zero] at h0 h1
  obtain ⟨k0, e0, f0, _⟩ := DataW.trod_int Tryd.underlying67 h0
  obtain ⟨k1, e1, f1, _⟩ := DataW.trod_int Tryd.underlying3 h1
  simp only [List.cons.injEq, and_true] at e0 e1
  subst e0 e1 f0 f1
  simp only [Rows.laid_e2e_floor_accepted, Prod.mk.injEq, DataW.agg.injEq, List.cons.injEq, DataW.lit.injEq, Lit.int.injEq, true_and, and_true] at hx
  obtain ⟨⟨rfl, rfl⟩, _⟩ := hx
  have g0 := World.var?_cell hg0 hv0 0
  have g1 := World.var?_cell hg0 hv0 1
  exact ⟨World.block_lt_of_cell? W ⟨0, 0, none⟩ (by simpa using g0), by simpa using g0, by simpa using g1⟩

end Go.Proofs.Qxb6500715aDoor
