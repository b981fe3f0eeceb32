/-
  The two listed variables opened: scanDirs and accepted.
-/
import Derived.Test.Qxb6500715aFmtScript
import Derived.Test.Qxb6500715aFmtLnk
import Derived.Laws.IdiomArrays
namespace Go.Proofs.Qxb6500715aFmt
open Go.ChangeShapes Go.WideShapes Go.ChangeAt Go.RowKit Go.Deep
set_option linter.unusedSimpArgs false
set_option linter.unusedVariables false

theorem own : ownKnob Tryf.prog.godebug = none := by kernel_rfl
theorem laidOut : laidOutB Tryf.prog = true := by kernel_rfl
theorem gDir : Tryf.prog.globalNamed ((Rows.auditPassesRow.named.drop 1).headD default) = some 1 := by kernel_rfl
theorem gAcc : Tryf.prog.globalNamed (Rows.auditPassesRow.named.headD default) = some 0 := by kernel_rfl
theorem tDir : (Tryf.prog.globals[1]?).map (·.type) = some 128 := by kernel_rfl
theorem tAcc : (Tryf.prog.globals[0]?).map (·.type) = some 36 := by kernel_rfl
abbrev laid2 : List (String × DataW Unit) := Rows.auditPassesRow.laid

theorem two_of {α : Type} {l : List α} (h : l.length = 2) : ∃ a b, l = [a, b] :=
  match l, h with
  | [a, b], _ => ⟨a, b, rfl⟩
theorem four_of {α : Type} {l : List α} (h : l.length = 4) : ∃ a b c d, l = [a, b, c, d] :=
  match l, h with
  | [a, b, c, d], _ => ⟨a, b, c, d, rfl⟩

theorem globs2_of {W : World} (h : laidMetH Tryf.prog laid2 W) : Globs W ∧ Dirs W := by
  rw [MakeChecks.laidMetH_plain _ _ _ (by kernel_rfl)] at h
  obtain ⟨ps, ⟨g0, t0, cs0, f0, p0, q0, hg0, ht0, hv0, hd0, hrest, _⟩, _, _⟩ := h
  obtain ⟨g1, t1, cs1, f1, p1, q1, hg1, ht1, hv1, hd1, _, _⟩ := hrest
  obtain rfl := Option.some.inj (gDir.symm.trans hg0)
  obtain rfl := Option.some.inj (tDir.symm.trans ht0)
  obtain rfl := Option.some.inj (gAcc.symm.trans hg1)
  obtain rfl := Option.some.inj (tAcc.symm.trans ht1)
  have hA : Globs W := by
    obtain ⟨y0, y1, m, hx, hl, h0, h1⟩ := trod_struct2 Tryf.underlying36 hd1
    have c69 : Tryf.prog.cellsOf 36 = 2 := by kernel_rfl
    have c68 : Tryf.prog.cellsOf 34 = 1 := by kernel_rfl
    obtain ⟨cs⟩ := cs1
    rw [c69] at hl
    simp only [cells3, c68] at h0 h1
    obtain ⟨a0, a1, rfl⟩ := two_of hl
    simp only [List.drop_zero, List.drop_succ_cons, List.take_succ_cons, List.take_zero] at h0 h1
    obtain ⟨k0, e0, f0, _⟩ := DataW.trod_int Tryf.underlying34 h0
    obtain ⟨k1, e1, f1, _⟩ := DataW.trod_int Tryf.underlying3 h1
    simp only [List.cons.injEq, and_true] at e0 e1
    subst e0 e1 f0 f1
    simp only [Rows.laid_e2e_floor_accepted, Prod.mk.injEq, DataW.agg.injEq, List.cons.injEq, DataW.lit.injEq, Lit.int.injEq, true_and, and_true] at hx
    obtain ⟨⟨rfl, rfl⟩, _⟩ := hx
    have g0 := World.var?_cell hg1 hv1 0
    have g1 := World.var?_cell hg1 hv1 1
    exact ⟨World.block_lt_of_cell? W ⟨0, 0, none⟩ (by simpa using g0), by simpa using g0, by simpa using g1⟩
  refine ⟨hA, ?_⟩
  obtain ⟨xs, m, hfu, hx, hl, hxl, hall⟩ := DataW.trod_array Tryf.underlying128 hd0
  have c150 : Tryf.prog.cellsOf 128 = 4 := by kernel_rfl
  have c100 : Tryf.prog.cellsOf 127 = 1 := by kernel_rfl
  obtain ⟨cs⟩ := cs0
  rw [c150] at hl
  obtain ⟨a0, a1, a2, a3, rfl⟩ := four_of hl
  obtain ⟨x0, x1, x2, x3, rfl⟩ := four_of hxl
  have h0 := hall 0 (by omega)
  have h1 := hall 1 (by omega)
  have h2 := hall 2 (by omega)
  have h3 := hall 3 (by omega)
  simp only [c100, Nat.zero_mul, Nat.one_mul, Nat.mul_one, List.drop_zero, List.drop_succ_cons, List.take_succ_cons, List.take_zero, List.getElem?_cons_zero, List.getElem?_cons_succ] at h0 h1 h2 h3
  obtain ⟨k0, e0, f0, _⟩ := DataW.trod_int Tryf.underlying127 h0
  obtain ⟨k1, e1, f1, _⟩ := DataW.trod_int Tryf.underlying127 h1
  obtain ⟨k2, e2, f2, _⟩ := DataW.trod_int Tryf.underlying127 h2
  obtain ⟨k3, e3, f3, _⟩ := DataW.trod_int Tryf.underlying127 h3
  simp only [List.cons.injEq, and_true] at e0 e1 e2 e3
  subst e0 e1 e2 e3 f0 f1 f2 f3
  simp only [Rows.laid_e2e_floor_scanDirs, List.map_cons, List.map_nil, Prod.mk.injEq, DataW.agg.injEq, List.cons.injEq, DataW.lit.injEq, Lit.int.injEq, true_and, and_true] at hx
  obtain ⟨⟨rfl, rfl, rfl, rfl⟩, _⟩ := hx
  have g0 := World.var?_cell hg0 hv0 0
  have g1 := World.var?_cell hg0 hv0 1
  have g2 := World.var?_cell hg0 hv0 2
  have g3 := World.var?_cell hg0 hv0 3
  exact ⟨World.block_lt_of_cell? W ⟨1, 0, none⟩ (by simpa using g0), by simpa using g0, by simpa using g1, by simpa using g2, by simpa using g3⟩
end Go.Proofs.Qxb6500715aFmt
