/-
  Verify and Valid: the plain functions.
-/
import Derived.Test.Qxb6500716aDw
import Derived.Test.Qxb6500716aPt
namespace Go.Proofs.Qxb6500716a
open Go.RowKit Go.Maps
set_option linter.unusedSimpArgs false
set_option linter.unusedVariables false
set_option maxRecDepth 20000
set_option maxHeartbeats 4000000
/-- Each cell of a path is free. -/
def cfC (T : TS) (r : Int) : Int → List Int → Bool
  | _, [] => true
  | t, c :: l => if T.freeC r c t = false then false else cfC T r (t + 1) l
/-- Each move of a path is free. -/
def cfM (T : TS) (r : Int) : Int → Int → List Int → Bool
  | _, _, [] => true
  | t, a, b :: l => if T.freeM r a b t = false then false else cfM T r (t + 1) b l
def cfl (T : TS) (r t : Int) (path : List Int) : Int :=
  if cfC T r t path = false then 7
  else if T.freeF r (path.getD (path.length - 1) 0) (t + path.length - 1) = false then 7
  else if T.at r (t - 1) ≠ -1 ∧ T.freeM r (T.at r (t - 1)) (path.getD 0 0) (t - 1) = false then 8
  else if cfM T r t (path.getD 0 0) (path.drop 1) = false then 8 else 0
/-- No cell but the one before it or one beside it. -/
def jmp (F : FS) : Int → List Int → Bool
  | _, [] => true
  | a, b :: l => if a ≠ b ∧ F.adj a b = false then false else jmp F b l
def ver (F : FS) (T : TS) (q : Rq) (c t : Int) (path done : List Int) : Int :=
  if rcode F T q ≠ 0 ∨ c ≠ 0 ∨ path.length = 0 ∨ done.length ≠ q.gl.length then 1
  else if t ≠ q.t ∨ path.getD 0 0 ≠ q.s then 2
  else if jmp F (path.getD 0 0) (path.drop 1) = false then 3
  else if dwl path t (t + path.length - 1) t q.gl done = false then 4
  else if path.getD (path.length - 1) 0 ≠ (F.park q.r).1 then 5
  else if q.h < (path.length : Int) - 1 ∨ (T.base : Int) + 256 ≤ t + path.length - 1 then 6
  else cfl T q.r t path
/-- Where the robot is just before the i-th cell. -/
def whr (T : TS) (r t : Int) (path : List Int) (i : Nat) : Int := if i = 0 then T.at r (t - 1) else path.getD (i - 1) 0
/-- Robot k bars the i-th cell. -/
def vr1 (T : TS) (r t : Int) (path : List Int) (k : Int) (i : Nat) : Bool :=
  decide (T.at k (t + i) = path.getD i 0) || (decide (whr T r t path i ≠ -1) && (decide (whr T r t path i ≠ path.getD i 0) && (decide (T.at k (t + i - 1) = path.getD i 0) && decide (T.at k (t + i) = whr T r t path i))))
def vrI (T : TS) (r t : Int) (path : List Int) (k : Int) : Nat → Nat → Bool
  | _, 0 => true
  | i, n + 1 => if vr1 T r t path k i = true then false else vrI T r t path k (i + 1) n
def vrK (T : TS) (r t : Int) (path : List Int) : Nat → Nat → Bool
  | _, 0 => true
  | k, n + 1 => if (k : Int) ≠ r ∧ vrI T r t path k 0 path.length = false then false else vrK T r t path (k + 1) n
def val (F : FS) (T : TS) (q : Rq) (c t : Int) (path done : List Int) : Bool :=
  if c ≠ 0 ∨ path.length = 0 ∨ done.length ≠ q.gl.length ∨ t ≠ q.t ∨ path.getD 0 0 ≠ q.s then false
  else if jmp F (path.getD 0 0) (path.drop 1) = false then false
  else if dwl path q.t (q.t + path.length - 1) q.t q.gl done = false then false
  else if path.getD (path.length - 1) 0 ≠ (F.park q.r).1 ∨ q.h < (path.length : Int) - 1 ∨ (T.base : Int) + 256 ≤ q.t + path.length - 1 then false
  else if vrK T q.r q.t path 0 F.bays.length = false then false
  else T.freeF q.r (path.getD (path.length - 1) 0) (q.t + path.length - 1)
end Go.Proofs.Qxb6500716a
