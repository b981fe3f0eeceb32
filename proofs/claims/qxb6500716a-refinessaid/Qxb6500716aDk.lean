/-
  Equal counts; the counts, plain.
-/
import Derived.Test.Qxb6500716aDj
namespace Go.Proofs.Qxb6500716a
open Go.RowKit Go.Maps
set_option linter.unusedSimpArgs false
set_option linter.unusedVariables false
set_option maxRecDepth 20000
set_option maxHeartbeats 4000000
theorem eq83 (w : World) (xs : Array Value) (h : ∃ a0 a1 a2 a3 a4 a5 a6 a7 : Int, xs = #[.int .i64 (a0), .int .i64 (a1), .int .i64 (a2), .int .i64 (a3), .int .i64 (a4), .int .i64 (a5), .int .i64 (a6), .int .i64 (a7)]) : (Op.equalIn 9999 83 (.agg xs) (.agg xs)).run Try.prog w = .ok true w := by
  obtain ⟨a0, a1, a2, a3, a4, a5, a6, a7, rfl⟩ := h
  obtain ⟨i, hi, -, hz1, -⟩ := info_parts (P := Try.prog) (e := 3) (z := .int .i64 (0)) (size := 1) (bytes := 8) (by kernel_rfl)
  rw [run_equalIn_array w 9998 _ _ Try.underlying83 hi]
  have h1 : Try.prog.cellsOf 3 = 1 := by kernel_rfl
  have e : ∀ u v : Int, (Op.equalIn 9998 3 (.int .i64 (u)) (.int .i64 (v))).run Try.prog w = .ok (u == v) w := fun u v => run_equalIn_int w 9997 3 .i64 .i64 u v Try.underlying3
  rw [show List.range 8 = [0, 1, 2, 3, 4, 5, 6, 7] from rfl, h1]
  simp [Op.eqItems, e, part, go_sem]
theorem eq85 (w : World) (f : Nat → Int) : (Op.equalIn 10000 85 (.agg #[.int .i64 ((f) 0), .int .i64 ((f) 1), .int .i64 ((f) 2), .int .i64 ((f) 3), .int .i64 ((f) 4), .int .i64 ((f) 5), .int .i64 ((f) 6), .int .i64 ((f) 7), .int .i64 ((f) 8), .int .i64 ((f) 9), .int .i64 ((f) 10)]) (.agg #[.int .i64 ((f) 0), .int .i64 ((f) 1), .int .i64 ((f) 2), .int .i64 ((f) 3), .int .i64 ((f) 4), .int .i64 ((f) 5), .int .i64 ((f) 6), .int .i64 ((f) 7), .int .i64 ((f) 8), .int .i64 ((f) 9), .int .i64 ((f) 10)])).run Try.prog w = .ok true w := by
  rw [run_equalIn_struct w 9999 85 _ _ (by kernel_rfl) (by kernel_rfl)]
  have e : ∀ u v : Int, (Op.equalIn 9999 3 (.int .i64 (u)) (.int .i64 (v))).run Try.prog w = .ok (u == v) w := fun u v => run_equalIn_int w 9998 3 .i64 .i64 u v Try.underlying3
  have e83 := eq83 w #[.int .i64 (f 1), .int .i64 (f 2), .int .i64 (f 3), .int .i64 (f 4), .int .i64 (f 5), .int .i64 (f 6), .int .i64 (f 7), .int .i64 (f 8)] ⟨_, _, _, _, _, _, _, _, rfl⟩
  have hf : (Try.prog.fieldsOf 85).toList = (Try.prog.fieldsOf 85).toList := rfl
  conv at hf => rhs; whnf
  rw [hf]
  simp [Op.eqFields, e, e83, part, go_sem]
end Go.Proofs.Qxb6500716a
