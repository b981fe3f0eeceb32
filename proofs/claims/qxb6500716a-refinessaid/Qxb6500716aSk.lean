/-
  Maps whose keys are structs of two integers.
-/
import Derived.Test.Qxb6500716aBm
namespace Go.Proofs.Qxb6500716a
open Go.RowKit Go.Maps
set_option linter.unusedSimpArgs false
set_option linter.unusedVariables false
set_option maxRecDepth 20000
set_option maxHeartbeats 4000000
open Go.Maps
theorem under125 : Try.prog.underlying 125 = some (.struct (Try.prog.fieldsOf 125)) := by kernel_rfl
theorem under123 : Try.prog.underlying 123 = some (.map 125 4) := by kernel_rfl
theorem law125 : Keyed Try.prog 125 := Keyed.of_law (deep_law_laid (P := Try.prog) (by kernel_rfl) (m := 9) (by omega) (of_decide_eq_true (by kernel_rfl)) (by kernel_rfl) (by kernel_rfl))
theorem key5_of {a b : Int} (ha : I64 a) (hb : I64 b) : keyOf Try.prog 125 (.agg #[.int .i64 (a), .int .i64 (b)]) = some (key2 a b) := by
  obtain ⟨m, hm⟩ := types1
  have hkt : Try.prog.keyType 125 = true := by kernel_rfl
  have hcl : Try.prog.cellsOf 125 = 2 := by kernel_rfl
  have hc3 : Try.prog.cellsOf 3 = 1 := by kernel_rfl
  have hf : (Try.prog.fieldsOf 125).toList = (Try.prog.fieldsOf 125).toList := rfl
  conv at hf => rhs; whnf
  have wa := ha.wf
  have wb := hb.wf
  unfold keyOf
  simp only [under125]
  rw [if_pos (by simp [hkt, Value.formed, under125, hcl]), hm]
  unfold Program.keyLits
  simp only [under125, Value.cells]
  rw [if_pos ⟨by rw [hcl]; rfl, by kernel_rfl⟩, hf]
  simp [List.mapM_cons, Program.keyLits, Try.underlying3, wa, wb, hc3, key2]
theorem look125 {w : World} {b n : Nat} {S : Lit → Prop} (h : BAt 125 w b n S) {a c : Int} (ha : I64 a) (hc : I64 c) (x : Bool) (hx : S (key2 a c) ↔ x = true) : (Instr.lookup 123 (.map (some b)) (.agg #[.int .i64 (a), .int .i64 (c)]) false).run Try.prog w = .ok (.bool x) w :=
  h.look law125 under123 (key2_lit a c) (key5_of ha hc) x hx
theorem put125 {w : World} {b n : Nat} {S : Lit → Prop} (h : BAt 125 w b n S) (hn : n < 1000000000) {a c : Int} (ha : I64 a) (hc : I64 c) :
    ∃ w', (Instr.mapUpdate 123 (.map (some b)) (.agg #[.int .i64 (a), .int .i64 (c)]) (.bool true)).run Try.prog w = .ok () w' ∧ BAt 125 w' b (n + 1) (fun x => x = key2 a c ∨ S x) ∧ w.grownBy w' (some b) :=
  h.put law125 under123 hn (key2_lit a c) (key5_of ha hc)
end Go.Proofs.Qxb6500716a
