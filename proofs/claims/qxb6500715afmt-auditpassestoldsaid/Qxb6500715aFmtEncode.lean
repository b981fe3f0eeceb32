/-
  Encode.
-/
import Derived.Test.Qxb6500715aFmtDecode2
import Derived.Test.Qxb6500715aFmtOwn
import Derived.Deep.DeepMust
namespace Go.Proofs.Qxb6500715aFmt
open Go.RowKit
set_option linter.unusedSimpArgs false
set_option linter.unusedVariables false

/-- The first n of g's bytes, as cells. -/
def rowOf (g : Nat → Int) (n : Nat) : List Value := (List.range n).map fun i => .int .u8 (g i)

theorem rowOf_two (g : Nat → Int) (n : Nat) (x y : Int) (hx : g n = x) (hy : g (n + 1) = y) : rowOf g n ++ [.int .u8 x, .int .u8 y] = rowOf g (n + 2) := by
  subst hx hy; simp [rowOf, List.range_succ]
theorem rowOf_one (g : Nat → Int) (n : Nat) (x : Int) (hx : g n = x) : rowOf g n ++ [.int .u8 x] = rowOf g (n + 1) := by
  subst hx; simp [rowOf, List.range_succ]

theorem rowOf_get (g : Nat → Int) (n i : Nat) (h : i < n) : (rowOf g n)[i]? = some (.int .u8 (g i)) := by
  simp [rowOf, h]


end Go.Proofs.Qxb6500715aFmt
