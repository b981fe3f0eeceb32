/-
  aisleDist: the walk.
-/
import Derived.Test.Qxb6500715aFmtCross
namespace Go.Proofs.Qxb6500715aFmt
open Go.RowKit
set_option linter.unusedSimpArgs false
set_option linter.unusedVariables false

set_option maxRecDepth 20000 in
set_option maxHeartbeats 4000000 in
theorem ad_FFe (A P S : Nat) (D rr cc : Int) (pk : Value) (r1 q1 r2 q2 al ac ext col res : Nat) (w : World) (hS : S ≤ 12) (b1 : 1 ≤ r1 ∧ r1 ≤ S + 2) (b2 : 1 ≤ r2 ∧ r2 ≤ S + 2) (b3 : al ≤ 100 ∧ ac ≤ 100 ∧ ext ≤ 100) (b4 : q1 ≤ 30 ∧ q2 ≤ 30)
    (hac : Hid (∀ w', Calls Tryf.prog 24 #[.int .i64 ((q1 : Int) - q2)] w' fun e w'' => e = .returned (.int .i64 (ac)) ∧ w'' = w')) (hal : Hid (∀ w', Calls Tryf.prog 24 #[.int .i64 ((r1 : Int) - r2)] w' fun e w'' => e = .returned (.int .i64 (al)) ∧ w'' = w'))
    (hX : Hid (∀ w', Calls Tryf.prog 78 #[.agg #[.int .i64 (A), .int .i64 (S), .int .i64 (P), .int .i64 D, .int .i64 rr, .int .i64 cc, pk], .int .i64 (q1), .int .i64 (q2)] w' fun e w'' => e = .returned (.tuple #[.int .i64 (col), .int .i64 (ext)]) ∧ ∃ z, w'' = w'.ext z))
    (h1 : r1 ≤ 1) (h2 : r2 ≤ 1) (hq : ac ≤ 0) (hr : Hid (res = ac)) :
    Calls Tryf.prog 64 #[.agg #[.int .i64 (A), .int .i64 (S), .int .i64 (P), .int .i64 D, .int .i64 rr, .int .i64 cc, pk], .agg #[.int .i64 (r1), .int .i64 (q1)], .agg #[.int .i64 (r2), .int .i64 (q2)]] w fun e w' => e = .returned (.int .i64 (res)) ∧ ∃ z, w' = w.ext z := by
  have d1 : ((r1 : Int) == (1)) = true := by simp; omega
  have d3 : ((r2 : Int) == (1)) = true := by simp; omega
  have d5 : ((ac : Int) == (0)) = true := by simp; omega
  have d6 : ((r1 : Int) == ((r2 : Int))) = true := by simp; omega
  go_enter Tryf.func64, Tryf.ntmps64
  go_wp2_with (first | (go_at_call 71; refine (backRow_any _ _ _ _ _ _ _ _ (by omega)).mono ?_; rintro e w' ⟨rfl, z, rfl⟩) | (go_at_call 24; (first | with_reducible refine (hac.out _).mono ?_ | with_reducible refine (hal.out _).mono ?_); rintro e w' ⟨rfl, rfl⟩) | (go_at_call 78; refine (hX.out _).mono ?_; rintro e w' ⟨rfl, z, rfl⟩))
  all_goals (have hr2 := hr.out; first | (exfalso; omega) | (go_ret; refine ⟨ret_int (by omega), ?_⟩; refine Below.is_ext ?_; repeat (first | with_reducible exact Below.rf _ | with_reducible exact World.below_ext _ _ | with_reducible refine Below.ex ?_ _ | with_reducible refine Below.al ?_ _ | with_reducible refine Below.drew ?_)))
set_option maxRecDepth 20000 in
set_option maxHeartbeats 4000000 in
theorem ad_FFn (A P S : Nat) (D rr cc : Int) (pk : Value) (r1 q1 r2 q2 al ac ext col res : Nat) (w : World) (hS : S ≤ 12) (b1 : 1 ≤ r1 ∧ r1 ≤ S + 2) (b2 : 1 ≤ r2 ∧ r2 ≤ S + 2) (b3 : al ≤ 100 ∧ ac ≤ 100 ∧ ext ≤ 100) (b4 : q1 ≤ 30 ∧ q2 ≤ 30)
    (hac : Hid (∀ w', Calls Tryf.prog 24 #[.int .i64 ((q1 : Int) - q2)] w' fun e w'' => e = .returned (.int .i64 (ac)) ∧ w'' = w')) (hal : Hid (∀ w', Calls Tryf.prog 24 #[.int .i64 ((r1 : Int) - r2)] w' fun e w'' => e = .returned (.int .i64 (al)) ∧ w'' = w'))
    (hX : Hid (∀ w', Calls Tryf.prog 78 #[.agg #[.int .i64 (A), .int .i64 (S), .int .i64 (P), .int .i64 D, .int .i64 rr, .int .i64 cc, pk], .int .i64 (q1), .int .i64 (q2)] w' fun e w'' => e = .returned (.tuple #[.int .i64 (col), .int .i64 (ext)]) ∧ ∃ z, w'' = w'.ext z))
    (h1 : r1 ≤ 1) (h2 : r2 ≤ 1) (hq : 1 ≤ ac) (hr : Hid (res = ac)) :
    Calls Tryf.prog 64 #[.agg #[.int .i64 (A), .int .i64 (S), .int .i64 (P), .int .i64 D, .int .i64 rr, .int .i64 cc, pk], .agg #[.int .i64 (r1), .int .i64 (q1)], .agg #[.int .i64 (r2), .int .i64 (q2)]] w fun e w' => e = .returned (.int .i64 (res)) ∧ ∃ z, w' = w.ext z := by
  have d1 : ((r1 : Int) == (1)) = true := by simp; omega
  have d3 : ((r2 : Int) == (1)) = true := by simp; omega
  have d5 : ((ac : Int) == (0)) = false := by simp; omega
  have d6 : ((r1 : Int) == ((r2 : Int))) = true := by simp; omega
  go_enter Tryf.func64, Tryf.ntmps64
  go_wp2_with (first | (go_at_call 71; refine (backRow_any _ _ _ _ _ _ _ _ (by omega)).mono ?_; rintro e w' ⟨rfl, z, rfl⟩) | (go_at_call 24; (first | with_reducible refine (hac.out _).mono ?_ | with_reducible refine (hal.out _).mono ?_); rintro e w' ⟨rfl, rfl⟩) | (go_at_call 78; refine (hX.out _).mono ?_; rintro e w' ⟨rfl, z, rfl⟩))
  all_goals (have hr2 := hr.out; first | (exfalso; omega) | (go_ret; refine ⟨ret_int (by omega), ?_⟩; refine Below.is_ext ?_; repeat (first | with_reducible exact Below.rf _ | with_reducible exact World.below_ext _ _ | with_reducible refine Below.ex ?_ _ | with_reducible refine Below.al ?_ _ | with_reducible refine Below.drew ?_)))
set_option maxRecDepth 20000 in
set_option maxHeartbeats 4000000 in
theorem ad_FBe (A P S : Nat) (D rr cc : Int) (pk : Value) (r1 q1 r2 q2 al ac ext col res : Nat) (w : World) (hS : S ≤ 12) (b1 : 1 ≤ r1 ∧ r1 ≤ S + 2) (b2 : 1 ≤ r2 ∧ r2 ≤ S + 2) (b3 : al ≤ 100 ∧ ac ≤ 100 ∧ ext ≤ 100) (b4 : q1 ≤ 30 ∧ q2 ≤ 30)
    (hac : Hid (∀ w', Calls Tryf.prog 24 #[.int .i64 ((q1 : Int) - q2)] w' fun e w'' => e = .returned (.int .i64 (ac)) ∧ w'' = w')) (hal : Hid (∀ w', Calls Tryf.prog 24 #[.int .i64 ((r1 : Int) - r2)] w' fun e w'' => e = .returned (.int .i64 (al)) ∧ w'' = w'))
    (hX : Hid (∀ w', Calls Tryf.prog 78 #[.agg #[.int .i64 (A), .int .i64 (S), .int .i64 (P), .int .i64 D, .int .i64 rr, .int .i64 cc, pk], .int .i64 (q1), .int .i64 (q2)] w' fun e w'' => e = .returned (.tuple #[.int .i64 (col), .int .i64 (ext)]) ∧ ∃ z, w'' = w'.ext z))
    (h1 : r1 ≤ 1) (h2 : S + 2 ≤ r2) (hq : ac ≤ 0) (hr : Hid (res = al + ac + ext)) :
    Calls Tryf.prog 64 #[.agg #[.int .i64 (A), .int .i64 (S), .int .i64 (P), .int .i64 D, .int .i64 rr, .int .i64 cc, pk], .agg #[.int .i64 (r1), .int .i64 (q1)], .agg #[.int .i64 (r2), .int .i64 (q2)]] w fun e w' => e = .returned (.int .i64 (res)) ∧ ∃ z, w' = w.ext z := by
  have d1 : ((r1 : Int) == (1)) = true := by simp; omega
  have d3 : ((r2 : Int) == (1)) = false := by simp; omega
  have d4 : ((r2 : Int) == ((S : Int) + 2)) = true := by simp; omega
  have d5 : ((ac : Int) == (0)) = true := by simp; omega
  have d6 : ((r1 : Int) == ((r2 : Int))) = false := by simp; omega
  go_enter Tryf.func64, Tryf.ntmps64
  go_wp2_with (first | (go_at_call 71; refine (backRow_any _ _ _ _ _ _ _ _ (by omega)).mono ?_; rintro e w' ⟨rfl, z, rfl⟩) | (go_at_call 24; (first | with_reducible refine (hac.out _).mono ?_ | with_reducible refine (hal.out _).mono ?_); rintro e w' ⟨rfl, rfl⟩) | (go_at_call 78; refine (hX.out _).mono ?_; rintro e w' ⟨rfl, z, rfl⟩))
  all_goals (have hr2 := hr.out; first | (exfalso; omega) | (go_ret; refine ⟨ret_int (by omega), ?_⟩; refine Below.is_ext ?_; repeat (first | with_reducible exact Below.rf _ | with_reducible exact World.below_ext _ _ | with_reducible refine Below.ex ?_ _ | with_reducible refine Below.al ?_ _ | with_reducible refine Below.drew ?_)))
set_option maxRecDepth 20000 in
set_option maxHeartbeats 4000000 in
theorem ad_FBn (A P S : Nat) (D rr cc : Int) (pk : Value) (r1 q1 r2 q2 al ac ext col res : Nat) (w : World) (hS : S ≤ 12) (b1 : 1 ≤ r1 ∧ r1 ≤ S + 2) (b2 : 1 ≤ r2 ∧ r2 ≤ S + 2) (b3 : al ≤ 100 ∧ ac ≤ 100 ∧ ext ≤ 100) (b4 : q1 ≤ 30 ∧ q2 ≤ 30)
    (hac : Hid (∀ w', Calls Tryf.prog 24 #[.int .i64 ((q1 : Int) - q2)] w' fun e w'' => e = .returned (.int .i64 (ac)) ∧ w'' = w')) (hal : Hid (∀ w', Calls Tryf.prog 24 #[.int .i64 ((r1 : Int) - r2)] w' fun e w'' => e = .returned (.int .i64 (al)) ∧ w'' = w'))
    (hX : Hid (∀ w', Calls Tryf.prog 78 #[.agg #[.int .i64 (A), .int .i64 (S), .int .i64 (P), .int .i64 D, .int .i64 rr, .int .i64 cc, pk], .int .i64 (q1), .int .i64 (q2)] w' fun e w'' => e = .returned (.tuple #[.int .i64 (col), .int .i64 (ext)]) ∧ ∃ z, w'' = w'.ext z))
    (h1 : r1 ≤ 1) (h2 : S + 2 ≤ r2) (hq : 1 ≤ ac) (hr : Hid (res = al + ac + ext)) :
    Calls Tryf.prog 64 #[.agg #[.int .i64 (A), .int .i64 (S), .int .i64 (P), .int .i64 D, .int .i64 rr, .int .i64 cc, pk], .agg #[.int .i64 (r1), .int .i64 (q1)], .agg #[.int .i64 (r2), .int .i64 (q2)]] w fun e w' => e = .returned (.int .i64 (res)) ∧ ∃ z, w' = w.ext z := by
  have d1 : ((r1 : Int) == (1)) = true := by simp; omega
  have d3 : ((r2 : Int) == (1)) = false := by simp; omega
  have d4 : ((r2 : Int) == ((S : Int) + 2)) = true := by simp; omega
  have d5 : ((ac : Int) == (0)) = false := by simp; omega
  have d6 : ((r1 : Int) == ((r2 : Int))) = false := by simp; omega
  go_enter Tryf.func64, Tryf.ntmps64
  go_wp2_with (first | (go_at_call 71; refine (backRow_any _ _ _ _ _ _ _ _ (by omega)).mono ?_; rintro e w' ⟨rfl, z, rfl⟩) | (go_at_call 24; (first | with_reducible refine (hac.out _).mono ?_ | with_reducible refine (hal.out _).mono ?_); rintro e w' ⟨rfl, rfl⟩) | (go_at_call 78; refine (hX.out _).mono ?_; rintro e w' ⟨rfl, z, rfl⟩))
  all_goals (have hr2 := hr.out; first | (exfalso; omega) | (go_ret; refine ⟨ret_int (by omega), ?_⟩; refine Below.is_ext ?_; repeat (first | with_reducible exact Below.rf _ | with_reducible exact World.below_ext _ _ | with_reducible refine Below.ex ?_ _ | with_reducible refine Below.al ?_ _ | with_reducible refine Below.drew ?_)))
set_option maxRecDepth 20000 in
set_option maxHeartbeats 4000000 in
theorem ad_FIe (A P S : Nat) (D rr cc : Int) (pk : Value) (r1 q1 r2 q2 al ac ext col res : Nat) (w : World) (hS : S ≤ 12) (b1 : 1 ≤ r1 ∧ r1 ≤ S + 2) (b2 : 1 ≤ r2 ∧ r2 ≤ S + 2) (b3 : al ≤ 100 ∧ ac ≤ 100 ∧ ext ≤ 100) (b4 : q1 ≤ 30 ∧ q2 ≤ 30)
    (hac : Hid (∀ w', Calls Tryf.prog 24 #[.int .i64 ((q1 : Int) - q2)] w' fun e w'' => e = .returned (.int .i64 (ac)) ∧ w'' = w')) (hal : Hid (∀ w', Calls Tryf.prog 24 #[.int .i64 ((r1 : Int) - r2)] w' fun e w'' => e = .returned (.int .i64 (al)) ∧ w'' = w'))
    (hX : Hid (∀ w', Calls Tryf.prog 78 #[.agg #[.int .i64 (A), .int .i64 (S), .int .i64 (P), .int .i64 D, .int .i64 rr, .int .i64 cc, pk], .int .i64 (q1), .int .i64 (q2)] w' fun e w'' => e = .returned (.tuple #[.int .i64 (col), .int .i64 (ext)]) ∧ ∃ z, w'' = w'.ext z))
    (h1 : r1 ≤ 1) (h2 : 2 ≤ r2 ∧ r2 ≤ S + 1) (hq : ac ≤ 0) (hr : Hid (res = al)) :
    Calls Tryf.prog 64 #[.agg #[.int .i64 (A), .int .i64 (S), .int .i64 (P), .int .i64 D, .int .i64 rr, .int .i64 cc, pk], .agg #[.int .i64 (r1), .int .i64 (q1)], .agg #[.int .i64 (r2), .int .i64 (q2)]] w fun e w' => e = .returned (.int .i64 (res)) ∧ ∃ z, w' = w.ext z := by
  have d1 : ((r1 : Int) == (1)) = true := by simp; omega
  have d3 : ((r2 : Int) == (1)) = false := by simp; omega
  have d4 : ((r2 : Int) == ((S : Int) + 2)) = false := by simp; omega
  have d5 : ((ac : Int) == (0)) = true := by simp; omega
  go_enter Tryf.func64, Tryf.ntmps64
  go_wp2_with (first | (go_at_call 71; refine (backRow_any _ _ _ _ _ _ _ _ (by omega)).mono ?_; rintro e w' ⟨rfl, z, rfl⟩) | (go_at_call 24; (first | with_reducible refine (hac.out _).mono ?_ | with_reducible refine (hal.out _).mono ?_); rintro e w' ⟨rfl, rfl⟩) | (go_at_call 78; refine (hX.out _).mono ?_; rintro e w' ⟨rfl, z, rfl⟩))
  all_goals (have hr2 := hr.out; first | (exfalso; omega) | (go_ret; refine ⟨ret_int (by omega), ?_⟩; refine Below.is_ext ?_; repeat (first | with_reducible exact Below.rf _ | with_reducible exact World.below_ext _ _ | with_reducible refine Below.ex ?_ _ | with_reducible refine Below.al ?_ _ | with_reducible refine Below.drew ?_)))
set_option maxRecDepth 20000 in
set_option maxHeartbeats 4000000 in
theorem ad_FIn (A P S : Nat) (D rr cc : Int) (pk : Value) (r1 q1 r2 q2 al ac ext col res : Nat) (w : World) (hS : S ≤ 12) (b1 : 1 ≤ r1 ∧ r1 ≤ S + 2) (b2 : 1 ≤ r2 ∧ r2 ≤ S + 2) (b3 : al ≤ 100 ∧ ac ≤ 100 ∧ ext ≤ 100) (b4 : q1 ≤ 30 ∧ q2 ≤ 30)
    (hac : Hid (∀ w', Calls Tryf.prog 24 #[.int .i64 ((q1 : Int) - q2)] w' fun e w'' => e = .returned (.int .i64 (ac)) ∧ w'' = w')) (hal : Hid (∀ w', Calls Tryf.prog 24 #[.int .i64 ((r1 : Int) - r2)] w' fun e w'' => e = .returned (.int .i64 (al)) ∧ w'' = w'))
    (hX : Hid (∀ w', Calls Tryf.prog 78 #[.agg #[.int .i64 (A), .int .i64 (S), .int .i64 (P), .int .i64 D, .int .i64 rr, .int .i64 cc, pk], .int .i64 (q1), .int .i64 (q2)] w' fun e w'' => e = .returned (.tuple #[.int .i64 (col), .int .i64 (ext)]) ∧ ∃ z, w'' = w'.ext z))
    (h1 : r1 ≤ 1) (h2 : 2 ≤ r2 ∧ r2 ≤ S + 1) (hq : 1 ≤ ac) (hr : Hid (res = al + ac)) :
    Calls Tryf.prog 64 #[.agg #[.int .i64 (A), .int .i64 (S), .int .i64 (P), .int .i64 D, .int .i64 rr, .int .i64 cc, pk], .agg #[.int .i64 (r1), .int .i64 (q1)], .agg #[.int .i64 (r2), .int .i64 (q2)]] w fun e w' => e = .returned (.int .i64 (res)) ∧ ∃ z, w' = w.ext z := by
  have d1 : ((r1 : Int) == (1)) = true := by simp; omega
  have d3 : ((r2 : Int) == (1)) = false := by simp; omega
  have d4 : ((r2 : Int) == ((S : Int) + 2)) = false := by simp; omega
  have d5 : ((ac : Int) == (0)) = false := by simp; omega
  go_enter Tryf.func64, Tryf.ntmps64
  go_wp2_with (first | (go_at_call 71; refine (backRow_any _ _ _ _ _ _ _ _ (by omega)).mono ?_; rintro e w' ⟨rfl, z, rfl⟩) | (go_at_call 24; (first | with_reducible refine (hac.out _).mono ?_ | with_reducible refine (hal.out _).mono ?_); rintro e w' ⟨rfl, rfl⟩) | (go_at_call 78; refine (hX.out _).mono ?_; rintro e w' ⟨rfl, z, rfl⟩))
  all_goals (have hr2 := hr.out; first | (exfalso; omega) | (go_ret; refine ⟨ret_int (by omega), ?_⟩; refine Below.is_ext ?_; repeat (first | with_reducible exact Below.rf _ | with_reducible exact World.below_ext _ _ | with_reducible refine Below.ex ?_ _ | with_reducible refine Below.al ?_ _ | with_reducible refine Below.drew ?_)))
set_option maxRecDepth 20000 in
set_option maxHeartbeats 4000000 in
theorem ad_BFe (A P S : Nat) (D rr cc : Int) (pk : Value) (r1 q1 r2 q2 al ac ext col res : Nat) (w : World) (hS : S ≤ 12) (b1 : 1 ≤ r1 ∧ r1 ≤ S + 2) (b2 : 1 ≤ r2 ∧ r2 ≤ S + 2) (b3 : al ≤ 100 ∧ ac ≤ 100 ∧ ext ≤ 100) (b4 : q1 ≤ 30 ∧ q2 ≤ 30)
    (hac : Hid (∀ w', Calls Tryf.prog 24 #[.int .i64 ((q1 : Int) - q2)] w' fun e w'' => e = .returned (.int .i64 (ac)) ∧ w'' = w')) (hal : Hid (∀ w', Calls Tryf.prog 24 #[.int .i64 ((r1 : Int) - r2)] w' fun e w'' => e = .returned (.int .i64 (al)) ∧ w'' = w'))
    (hX : Hid (∀ w', Calls Tryf.prog 78 #[.agg #[.int .i64 (A), .int .i64 (S), .int .i64 (P), .int .i64 D, .int .i64 rr, .int .i64 cc, pk], .int .i64 (q1), .int .i64 (q2)] w' fun e w'' => e = .returned (.tuple #[.int .i64 (col), .int .i64 (ext)]) ∧ ∃ z, w'' = w'.ext z))
    (h1 : S + 2 ≤ r1) (h2 : r2 ≤ 1) (hq : ac ≤ 0) (hr : Hid (res = al + ac + ext)) :
    Calls Tryf.prog 64 #[.agg #[.int .i64 (A), .int .i64 (S), .int .i64 (P), .int .i64 D, .int .i64 rr, .int .i64 cc, pk], .agg #[.int .i64 (r1), .int .i64 (q1)], .agg #[.int .i64 (r2), .int .i64 (q2)]] w fun e w' => e = .returned (.int .i64 (res)) ∧ ∃ z, w' = w.ext z := by
  have d1 : ((r1 : Int) == (1)) = false := by simp; omega
  have d2 : ((r1 : Int) == ((S : Int) + 2)) = true := by simp; omega
  have d3 : ((r2 : Int) == (1)) = true := by simp; omega
  have d5 : ((ac : Int) == (0)) = true := by simp; omega
  have d6 : ((r1 : Int) == ((r2 : Int))) = false := by simp; omega
  go_enter Tryf.func64, Tryf.ntmps64
  go_wp2_with (first | (go_at_call 71; refine (backRow_any _ _ _ _ _ _ _ _ (by omega)).mono ?_; rintro e w' ⟨rfl, z, rfl⟩) | (go_at_call 24; (first | with_reducible refine (hac.out _).mono ?_ | with_reducible refine (hal.out _).mono ?_); rintro e w' ⟨rfl, rfl⟩) | (go_at_call 78; refine (hX.out _).mono ?_; rintro e w' ⟨rfl, z, rfl⟩))
  all_goals (have hr2 := hr.out; first | (exfalso; omega) | (go_ret; refine ⟨ret_int (by omega), ?_⟩; refine Below.is_ext ?_; repeat (first | with_reducible exact Below.rf _ | with_reducible exact World.below_ext _ _ | with_reducible refine Below.ex ?_ _ | with_reducible refine Below.al ?_ _ | with_reducible refine Below.drew ?_)))
set_option maxRecDepth 20000 in
set_option maxHeartbeats 4000000 in
theorem ad_BFn (A P S : Nat) (D rr cc : Int) (pk : Value) (r1 q1 r2 q2 al ac ext col res : Nat) (w : World) (hS : S ≤ 12) (b1 : 1 ≤ r1 ∧ r1 ≤ S + 2) (b2 : 1 ≤ r2 ∧ r2 ≤ S + 2) (b3 : al ≤ 100 ∧ ac ≤ 100 ∧ ext ≤ 100) (b4 : q1 ≤ 30 ∧ q2 ≤ 30)
    (hac : Hid (∀ w', Calls Tryf.prog 24 #[.int .i64 ((q1 : Int) - q2)] w' fun e w'' => e = .returned (.int .i64 (ac)) ∧ w'' = w')) (hal : Hid (∀ w', Calls Tryf.prog 24 #[.int .i64 ((r1 : Int) - r2)] w' fun e w'' => e = .returned (.int .i64 (al)) ∧ w'' = w'))
    (hX : Hid (∀ w', Calls Tryf.prog 78 #[.agg #[.int .i64 (A), .int .i64 (S), .int .i64 (P), .int .i64 D, .int .i64 rr, .int .i64 cc, pk], .int .i64 (q1), .int .i64 (q2)] w' fun e w'' => e = .returned (.tuple #[.int .i64 (col), .int .i64 (ext)]) ∧ ∃ z, w'' = w'.ext z))
    (h1 : S + 2 ≤ r1) (h2 : r2 ≤ 1) (hq : 1 ≤ ac) (hr : Hid (res = al + ac + ext)) :
    Calls Tryf.prog 64 #[.agg #[.int .i64 (A), .int .i64 (S), .int .i64 (P), .int .i64 D, .int .i64 rr, .int .i64 cc, pk], .agg #[.int .i64 (r1), .int .i64 (q1)], .agg #[.int .i64 (r2), .int .i64 (q2)]] w fun e w' => e = .returned (.int .i64 (res)) ∧ ∃ z, w' = w.ext z := by
  have d1 : ((r1 : Int) == (1)) = false := by simp; omega
  have d2 : ((r1 : Int) == ((S : Int) + 2)) = true := by simp; omega
  have d3 : ((r2 : Int) == (1)) = true := by simp; omega
  have d5 : ((ac : Int) == (0)) = false := by simp; omega
  have d6 : ((r1 : Int) == ((r2 : Int))) = false := by simp; omega
  go_enter Tryf.func64, Tryf.ntmps64
  go_wp2_with (first | (go_at_call 71; refine (backRow_any _ _ _ _ _ _ _ _ (by omega)).mono ?_; rintro e w' ⟨rfl, z, rfl⟩) | (go_at_call 24; (first | with_reducible refine (hac.out _).mono ?_ | with_reducible refine (hal.out _).mono ?_); rintro e w' ⟨rfl, rfl⟩) | (go_at_call 78; refine (hX.out _).mono ?_; rintro e w' ⟨rfl, z, rfl⟩))
  all_goals (have hr2 := hr.out; first | (exfalso; omega) | (go_ret; refine ⟨ret_int (by omega), ?_⟩; refine Below.is_ext ?_; repeat (first | with_reducible exact Below.rf _ | with_reducible exact World.below_ext _ _ | with_reducible refine Below.ex ?_ _ | with_reducible refine Below.al ?_ _ | with_reducible refine Below.drew ?_)))
set_option maxRecDepth 20000 in
set_option maxHeartbeats 4000000 in
theorem ad_BBe (A P S : Nat) (D rr cc : Int) (pk : Value) (r1 q1 r2 q2 al ac ext col res : Nat) (w : World) (hS : S ≤ 12) (b1 : 1 ≤ r1 ∧ r1 ≤ S + 2) (b2 : 1 ≤ r2 ∧ r2 ≤ S + 2) (b3 : al ≤ 100 ∧ ac ≤ 100 ∧ ext ≤ 100) (b4 : q1 ≤ 30 ∧ q2 ≤ 30)
    (hac : Hid (∀ w', Calls Tryf.prog 24 #[.int .i64 ((q1 : Int) - q2)] w' fun e w'' => e = .returned (.int .i64 (ac)) ∧ w'' = w')) (hal : Hid (∀ w', Calls Tryf.prog 24 #[.int .i64 ((r1 : Int) - r2)] w' fun e w'' => e = .returned (.int .i64 (al)) ∧ w'' = w'))
    (hX : Hid (∀ w', Calls Tryf.prog 78 #[.agg #[.int .i64 (A), .int .i64 (S), .int .i64 (P), .int .i64 D, .int .i64 rr, .int .i64 cc, pk], .int .i64 (q1), .int .i64 (q2)] w' fun e w'' => e = .returned (.tuple #[.int .i64 (col), .int .i64 (ext)]) ∧ ∃ z, w'' = w'.ext z))
    (h1 : S + 2 ≤ r1) (h2 : S + 2 ≤ r2) (hq : ac ≤ 0) (hr : Hid (res = ac)) :
    Calls Tryf.prog 64 #[.agg #[.int .i64 (A), .int .i64 (S), .int .i64 (P), .int .i64 D, .int .i64 rr, .int .i64 cc, pk], .agg #[.int .i64 (r1), .int .i64 (q1)], .agg #[.int .i64 (r2), .int .i64 (q2)]] w fun e w' => e = .returned (.int .i64 (res)) ∧ ∃ z, w' = w.ext z := by
  have d1 : ((r1 : Int) == (1)) = false := by simp; omega
  have d2 : ((r1 : Int) == ((S : Int) + 2)) = true := by simp; omega
  have d3 : ((r2 : Int) == (1)) = false := by simp; omega
  have d4 : ((r2 : Int) == ((S : Int) + 2)) = true := by simp; omega
  have d5 : ((ac : Int) == (0)) = true := by simp; omega
  have d6 : ((r1 : Int) == ((r2 : Int))) = true := by simp; omega
  go_enter Tryf.func64, Tryf.ntmps64
  go_wp2_with (first | (go_at_call 71; refine (backRow_any _ _ _ _ _ _ _ _ (by omega)).mono ?_; rintro e w' ⟨rfl, z, rfl⟩) | (go_at_call 24; (first | with_reducible refine (hac.out _).mono ?_ | with_reducible refine (hal.out _).mono ?_); rintro e w' ⟨rfl, rfl⟩) | (go_at_call 78; refine (hX.out _).mono ?_; rintro e w' ⟨rfl, z, rfl⟩))
  all_goals (have hr2 := hr.out; first | (exfalso; omega) | (go_ret; refine ⟨ret_int (by omega), ?_⟩; refine Below.is_ext ?_; repeat (first | with_reducible exact Below.rf _ | with_reducible exact World.below_ext _ _ | with_reducible refine Below.ex ?_ _ | with_reducible refine Below.al ?_ _ | with_reducible refine Below.drew ?_)))
set_option maxRecDepth 20000 in
set_option maxHeartbeats 4000000 in
theorem ad_BBn (A P S : Nat) (D rr cc : Int) (pk : Value) (r1 q1 r2 q2 al ac ext col res : Nat) (w : World) (hS : S ≤ 12) (b1 : 1 ≤ r1 ∧ r1 ≤ S + 2) (b2 : 1 ≤ r2 ∧ r2 ≤ S + 2) (b3 : al ≤ 100 ∧ ac ≤ 100 ∧ ext ≤ 100) (b4 : q1 ≤ 30 ∧ q2 ≤ 30)
    (hac : Hid (∀ w', Calls Tryf.prog 24 #[.int .i64 ((q1 : Int) - q2)] w' fun e w'' => e = .returned (.int .i64 (ac)) ∧ w'' = w')) (hal : Hid (∀ w', Calls Tryf.prog 24 #[.int .i64 ((r1 : Int) - r2)] w' fun e w'' => e = .returned (.int .i64 (al)) ∧ w'' = w'))
    (hX : Hid (∀ w', Calls Tryf.prog 78 #[.agg #[.int .i64 (A), .int .i64 (S), .int .i64 (P), .int .i64 D, .int .i64 rr, .int .i64 cc, pk], .int .i64 (q1), .int .i64 (q2)] w' fun e w'' => e = .returned (.tuple #[.int .i64 (col), .int .i64 (ext)]) ∧ ∃ z, w'' = w'.ext z))
    (h1 : S + 2 ≤ r1) (h2 : S + 2 ≤ r2) (hq : 1 ≤ ac) (hr : Hid (res = ac)) :
    Calls Tryf.prog 64 #[.agg #[.int .i64 (A), .int .i64 (S), .int .i64 (P), .int .i64 D, .int .i64 rr, .int .i64 cc, pk], .agg #[.int .i64 (r1), .int .i64 (q1)], .agg #[.int .i64 (r2), .int .i64 (q2)]] w fun e w' => e = .returned (.int .i64 (res)) ∧ ∃ z, w' = w.ext z := by
  have d1 : ((r1 : Int) == (1)) = false := by simp; omega
  have d2 : ((r1 : Int) == ((S : Int) + 2)) = true := by simp; omega
  have d3 : ((r2 : Int) == (1)) = false := by simp; omega
  have d4 : ((r2 : Int) == ((S : Int) + 2)) = true := by simp; omega
  have d5 : ((ac : Int) == (0)) = false := by simp; omega
  have d6 : ((r1 : Int) == ((r2 : Int))) = true := by simp; omega
  go_enter Tryf.func64, Tryf.ntmps64
  go_wp2_with (first | (go_at_call 71; refine (backRow_any _ _ _ _ _ _ _ _ (by omega)).mono ?_; rintro e w' ⟨rfl, z, rfl⟩) | (go_at_call 24; (first | with_reducible refine (hac.out _).mono ?_ | with_reducible refine (hal.out _).mono ?_); rintro e w' ⟨rfl, rfl⟩) | (go_at_call 78; refine (hX.out _).mono ?_; rintro e w' ⟨rfl, z, rfl⟩))
  all_goals (have hr2 := hr.out; first | (exfalso; omega) | (go_ret; refine ⟨ret_int (by omega), ?_⟩; refine Below.is_ext ?_; repeat (first | with_reducible exact Below.rf _ | with_reducible exact World.below_ext _ _ | with_reducible refine Below.ex ?_ _ | with_reducible refine Below.al ?_ _ | with_reducible refine Below.drew ?_)))
set_option maxRecDepth 20000 in
set_option maxHeartbeats 4000000 in
theorem ad_BIe (A P S : Nat) (D rr cc : Int) (pk : Value) (r1 q1 r2 q2 al ac ext col res : Nat) (w : World) (hS : S ≤ 12) (b1 : 1 ≤ r1 ∧ r1 ≤ S + 2) (b2 : 1 ≤ r2 ∧ r2 ≤ S + 2) (b3 : al ≤ 100 ∧ ac ≤ 100 ∧ ext ≤ 100) (b4 : q1 ≤ 30 ∧ q2 ≤ 30)
    (hac : Hid (∀ w', Calls Tryf.prog 24 #[.int .i64 ((q1 : Int) - q2)] w' fun e w'' => e = .returned (.int .i64 (ac)) ∧ w'' = w')) (hal : Hid (∀ w', Calls Tryf.prog 24 #[.int .i64 ((r1 : Int) - r2)] w' fun e w'' => e = .returned (.int .i64 (al)) ∧ w'' = w'))
    (hX : Hid (∀ w', Calls Tryf.prog 78 #[.agg #[.int .i64 (A), .int .i64 (S), .int .i64 (P), .int .i64 D, .int .i64 rr, .int .i64 cc, pk], .int .i64 (q1), .int .i64 (q2)] w' fun e w'' => e = .returned (.tuple #[.int .i64 (col), .int .i64 (ext)]) ∧ ∃ z, w'' = w'.ext z))
    (h1 : S + 2 ≤ r1) (h2 : 2 ≤ r2 ∧ r2 ≤ S + 1) (hq : ac ≤ 0) (hr : Hid (res = al)) :
    Calls Tryf.prog 64 #[.agg #[.int .i64 (A), .int .i64 (S), .int .i64 (P), .int .i64 D, .int .i64 rr, .int .i64 cc, pk], .agg #[.int .i64 (r1), .int .i64 (q1)], .agg #[.int .i64 (r2), .int .i64 (q2)]] w fun e w' => e = .returned (.int .i64 (res)) ∧ ∃ z, w' = w.ext z := by
  have d1 : ((r1 : Int) == (1)) = false := by simp; omega
  have d2 : ((r1 : Int) == ((S : Int) + 2)) = true := by simp; omega
  have d3 : ((r2 : Int) == (1)) = false := by simp; omega
  have d4 : ((r2 : Int) == ((S : Int) + 2)) = false := by simp; omega
  have d5 : ((ac : Int) == (0)) = true := by simp; omega
  go_enter Tryf.func64, Tryf.ntmps64
  go_wp2_with (first | (go_at_call 71; refine (backRow_any _ _ _ _ _ _ _ _ (by omega)).mono ?_; rintro e w' ⟨rfl, z, rfl⟩) | (go_at_call 24; (first | with_reducible refine (hac.out _).mono ?_ | with_reducible refine (hal.out _).mono ?_); rintro e w' ⟨rfl, rfl⟩) | (go_at_call 78; refine (hX.out _).mono ?_; rintro e w' ⟨rfl, z, rfl⟩))
  all_goals (have hr2 := hr.out; first | (exfalso; omega) | (go_ret; refine ⟨ret_int (by omega), ?_⟩; refine Below.is_ext ?_; repeat (first | with_reducible exact Below.rf _ | with_reducible exact World.below_ext _ _ | with_reducible refine Below.ex ?_ _ | with_reducible refine Below.al ?_ _ | with_reducible refine Below.drew ?_)))
set_option maxRecDepth 20000 in
set_option maxHeartbeats 4000000 in
theorem ad_BIn (A P S : Nat) (D rr cc : Int) (pk : Value) (r1 q1 r2 q2 al ac ext col res : Nat) (w : World) (hS : S ≤ 12) (b1 : 1 ≤ r1 ∧ r1 ≤ S + 2) (b2 : 1 ≤ r2 ∧ r2 ≤ S + 2) (b3 : al ≤ 100 ∧ ac ≤ 100 ∧ ext ≤ 100) (b4 : q1 ≤ 30 ∧ q2 ≤ 30)
    (hac : Hid (∀ w', Calls Tryf.prog 24 #[.int .i64 ((q1 : Int) - q2)] w' fun e w'' => e = .returned (.int .i64 (ac)) ∧ w'' = w')) (hal : Hid (∀ w', Calls Tryf.prog 24 #[.int .i64 ((r1 : Int) - r2)] w' fun e w'' => e = .returned (.int .i64 (al)) ∧ w'' = w'))
    (hX : Hid (∀ w', Calls Tryf.prog 78 #[.agg #[.int .i64 (A), .int .i64 (S), .int .i64 (P), .int .i64 D, .int .i64 rr, .int .i64 cc, pk], .int .i64 (q1), .int .i64 (q2)] w' fun e w'' => e = .returned (.tuple #[.int .i64 (col), .int .i64 (ext)]) ∧ ∃ z, w'' = w'.ext z))
    (h1 : S + 2 ≤ r1) (h2 : 2 ≤ r2 ∧ r2 ≤ S + 1) (hq : 1 ≤ ac) (hr : Hid (res = al + ac)) :
    Calls Tryf.prog 64 #[.agg #[.int .i64 (A), .int .i64 (S), .int .i64 (P), .int .i64 D, .int .i64 rr, .int .i64 cc, pk], .agg #[.int .i64 (r1), .int .i64 (q1)], .agg #[.int .i64 (r2), .int .i64 (q2)]] w fun e w' => e = .returned (.int .i64 (res)) ∧ ∃ z, w' = w.ext z := by
  have d1 : ((r1 : Int) == (1)) = false := by simp; omega
  have d2 : ((r1 : Int) == ((S : Int) + 2)) = true := by simp; omega
  have d3 : ((r2 : Int) == (1)) = false := by simp; omega
  have d4 : ((r2 : Int) == ((S : Int) + 2)) = false := by simp; omega
  have d5 : ((ac : Int) == (0)) = false := by simp; omega
  go_enter Tryf.func64, Tryf.ntmps64
  go_wp2_with (first | (go_at_call 71; refine (backRow_any _ _ _ _ _ _ _ _ (by omega)).mono ?_; rintro e w' ⟨rfl, z, rfl⟩) | (go_at_call 24; (first | with_reducible refine (hac.out _).mono ?_ | with_reducible refine (hal.out _).mono ?_); rintro e w' ⟨rfl, rfl⟩) | (go_at_call 78; refine (hX.out _).mono ?_; rintro e w' ⟨rfl, z, rfl⟩))
  all_goals (have hr2 := hr.out; first | (exfalso; omega) | (go_ret; refine ⟨ret_int (by omega), ?_⟩; refine Below.is_ext ?_; repeat (first | with_reducible exact Below.rf _ | with_reducible exact World.below_ext _ _ | with_reducible refine Below.ex ?_ _ | with_reducible refine Below.al ?_ _ | with_reducible refine Below.drew ?_)))
set_option maxRecDepth 20000 in
set_option maxHeartbeats 4000000 in
theorem ad_IFe (A P S : Nat) (D rr cc : Int) (pk : Value) (r1 q1 r2 q2 al ac ext col res : Nat) (w : World) (hS : S ≤ 12) (b1 : 1 ≤ r1 ∧ r1 ≤ S + 2) (b2 : 1 ≤ r2 ∧ r2 ≤ S + 2) (b3 : al ≤ 100 ∧ ac ≤ 100 ∧ ext ≤ 100) (b4 : q1 ≤ 30 ∧ q2 ≤ 30)
    (hac : Hid (∀ w', Calls Tryf.prog 24 #[.int .i64 ((q1 : Int) - q2)] w' fun e w'' => e = .returned (.int .i64 (ac)) ∧ w'' = w')) (hal : Hid (∀ w', Calls Tryf.prog 24 #[.int .i64 ((r1 : Int) - r2)] w' fun e w'' => e = .returned (.int .i64 (al)) ∧ w'' = w'))
    (hX : Hid (∀ w', Calls Tryf.prog 78 #[.agg #[.int .i64 (A), .int .i64 (S), .int .i64 (P), .int .i64 D, .int .i64 rr, .int .i64 cc, pk], .int .i64 (q1), .int .i64 (q2)] w' fun e w'' => e = .returned (.tuple #[.int .i64 (col), .int .i64 (ext)]) ∧ ∃ z, w'' = w'.ext z))
    (h1 : 2 ≤ r1 ∧ r1 ≤ S + 1) (h2 : r2 ≤ 1) (hq : ac ≤ 0) (hr : Hid (res = al)) :
    Calls Tryf.prog 64 #[.agg #[.int .i64 (A), .int .i64 (S), .int .i64 (P), .int .i64 D, .int .i64 rr, .int .i64 cc, pk], .agg #[.int .i64 (r1), .int .i64 (q1)], .agg #[.int .i64 (r2), .int .i64 (q2)]] w fun e w' => e = .returned (.int .i64 (res)) ∧ ∃ z, w' = w.ext z := by
  have d1 : ((r1 : Int) == (1)) = false := by simp; omega
  have d2 : ((r1 : Int) == ((S : Int) + 2)) = false := by simp; omega
  have d3 : ((r2 : Int) == (1)) = true := by simp; omega
  have d5 : ((ac : Int) == (0)) = true := by simp; omega
  go_enter Tryf.func64, Tryf.ntmps64
  go_wp2_with (first | (go_at_call 71; refine (backRow_any _ _ _ _ _ _ _ _ (by omega)).mono ?_; rintro e w' ⟨rfl, z, rfl⟩) | (go_at_call 24; (first | with_reducible refine (hac.out _).mono ?_ | with_reducible refine (hal.out _).mono ?_); rintro e w' ⟨rfl, rfl⟩) | (go_at_call 78; refine (hX.out _).mono ?_; rintro e w' ⟨rfl, z, rfl⟩))
  all_goals (have hr2 := hr.out; first | (exfalso; omega) | (go_ret; refine ⟨ret_int (by omega), ?_⟩; refine Below.is_ext ?_; repeat (first | with_reducible exact Below.rf _ | with_reducible exact World.below_ext _ _ | with_reducible refine Below.ex ?_ _ | with_reducible refine Below.al ?_ _ | with_reducible refine Below.drew ?_)))
set_option maxRecDepth 20000 in
set_option maxHeartbeats 4000000 in
theorem ad_IFn (A P S : Nat) (D rr cc : Int) (pk : Value) (r1 q1 r2 q2 al ac ext col res : Nat) (w : World) (hS : S ≤ 12) (b1 : 1 ≤ r1 ∧ r1 ≤ S + 2) (b2 : 1 ≤ r2 ∧ r2 ≤ S + 2) (b3 : al ≤ 100 ∧ ac ≤ 100 ∧ ext ≤ 100) (b4 : q1 ≤ 30 ∧ q2 ≤ 30)
    (hac : Hid (∀ w', Calls Tryf.prog 24 #[.int .i64 ((q1 : Int) - q2)] w' fun e w'' => e = .returned (.int .i64 (ac)) ∧ w'' = w')) (hal : Hid (∀ w', Calls Tryf.prog 24 #[.int .i64 ((r1 : Int) - r2)] w' fun e w'' => e = .returned (.int .i64 (al)) ∧ w'' = w'))
    (hX : Hid (∀ w', Calls Tryf.prog 78 #[.agg #[.int .i64 (A), .int .i64 (S), .int .i64 (P), .int .i64 D, .int .i64 rr, .int .i64 cc, pk], .int .i64 (q1), .int .i64 (q2)] w' fun e w'' => e = .returned (.tuple #[.int .i64 (col), .int .i64 (ext)]) ∧ ∃ z, w'' = w'.ext z))
    (h1 : 2 ≤ r1 ∧ r1 ≤ S + 1) (h2 : r2 ≤ 1) (hq : 1 ≤ ac) (hr : Hid (res = al + ac)) :
    Calls Tryf.prog 64 #[.agg #[.int .i64 (A), .int .i64 (S), .int .i64 (P), .int .i64 D, .int .i64 rr, .int .i64 cc, pk], .agg #[.int .i64 (r1), .int .i64 (q1)], .agg #[.int .i64 (r2), .int .i64 (q2)]] w fun e w' => e = .returned (.int .i64 (res)) ∧ ∃ z, w' = w.ext z := by
  have d1 : ((r1 : Int) == (1)) = false := by simp; omega
  have d2 : ((r1 : Int) == ((S : Int) + 2)) = false := by simp; omega
  have d3 : ((r2 : Int) == (1)) = true := by simp; omega
  have d5 : ((ac : Int) == (0)) = false := by simp; omega
  go_enter Tryf.func64, Tryf.ntmps64
  go_wp2_with (first | (go_at_call 71; refine (backRow_any _ _ _ _ _ _ _ _ (by omega)).mono ?_; rintro e w' ⟨rfl, z, rfl⟩) | (go_at_call 24; (first | with_reducible refine (hac.out _).mono ?_ | with_reducible refine (hal.out _).mono ?_); rintro e w' ⟨rfl, rfl⟩) | (go_at_call 78; refine (hX.out _).mono ?_; rintro e w' ⟨rfl, z, rfl⟩))
  all_goals (have hr2 := hr.out; first | (exfalso; omega) | (go_ret; refine ⟨ret_int (by omega), ?_⟩; refine Below.is_ext ?_; repeat (first | with_reducible exact Below.rf _ | with_reducible exact World.below_ext _ _ | with_reducible refine Below.ex ?_ _ | with_reducible refine Below.al ?_ _ | with_reducible refine Below.drew ?_)))
set_option maxRecDepth 20000 in
set_option maxHeartbeats 4000000 in
theorem ad_IBe (A P S : Nat) (D rr cc : Int) (pk : Value) (r1 q1 r2 q2 al ac ext col res : Nat) (w : World) (hS : S ≤ 12) (b1 : 1 ≤ r1 ∧ r1 ≤ S + 2) (b2 : 1 ≤ r2 ∧ r2 ≤ S + 2) (b3 : al ≤ 100 ∧ ac ≤ 100 ∧ ext ≤ 100) (b4 : q1 ≤ 30 ∧ q2 ≤ 30)
    (hac : Hid (∀ w', Calls Tryf.prog 24 #[.int .i64 ((q1 : Int) - q2)] w' fun e w'' => e = .returned (.int .i64 (ac)) ∧ w'' = w')) (hal : Hid (∀ w', Calls Tryf.prog 24 #[.int .i64 ((r1 : Int) - r2)] w' fun e w'' => e = .returned (.int .i64 (al)) ∧ w'' = w'))
    (hX : Hid (∀ w', Calls Tryf.prog 78 #[.agg #[.int .i64 (A), .int .i64 (S), .int .i64 (P), .int .i64 D, .int .i64 rr, .int .i64 cc, pk], .int .i64 (q1), .int .i64 (q2)] w' fun e w'' => e = .returned (.tuple #[.int .i64 (col), .int .i64 (ext)]) ∧ ∃ z, w'' = w'.ext z))
    (h1 : 2 ≤ r1 ∧ r1 ≤ S + 1) (h2 : S + 2 ≤ r2) (hq : ac ≤ 0) (hr : Hid (res = al)) :
    Calls Tryf.prog 64 #[.agg #[.int .i64 (A), .int .i64 (S), .int .i64 (P), .int .i64 D, .int .i64 rr, .int .i64 cc, pk], .agg #[.int .i64 (r1), .int .i64 (q1)], .agg #[.int .i64 (r2), .int .i64 (q2)]] w fun e w' => e = .returned (.int .i64 (res)) ∧ ∃ z, w' = w.ext z := by
  have d1 : ((r1 : Int) == (1)) = false := by simp; omega
  have d2 : ((r1 : Int) == ((S : Int) + 2)) = false := by simp; omega
  have d3 : ((r2 : Int) == (1)) = false := by simp; omega
  have d4 : ((r2 : Int) == ((S : Int) + 2)) = true := by simp; omega
  have d5 : ((ac : Int) == (0)) = true := by simp; omega
  go_enter Tryf.func64, Tryf.ntmps64
  go_wp2_with (first | (go_at_call 71; refine (backRow_any _ _ _ _ _ _ _ _ (by omega)).mono ?_; rintro e w' ⟨rfl, z, rfl⟩) | (go_at_call 24; (first | with_reducible refine (hac.out _).mono ?_ | with_reducible refine (hal.out _).mono ?_); rintro e w' ⟨rfl, rfl⟩) | (go_at_call 78; refine (hX.out _).mono ?_; rintro e w' ⟨rfl, z, rfl⟩))
  all_goals (have hr2 := hr.out; first | (exfalso; omega) | (go_ret; refine ⟨ret_int (by omega), ?_⟩; refine Below.is_ext ?_; repeat (first | with_reducible exact Below.rf _ | with_reducible exact World.below_ext _ _ | with_reducible refine Below.ex ?_ _ | with_reducible refine Below.al ?_ _ | with_reducible refine Below.drew ?_)))
set_option maxRecDepth 20000 in
set_option maxHeartbeats 4000000 in
theorem ad_IBn (A P S : Nat) (D rr cc : Int) (pk : Value) (r1 q1 r2 q2 al ac ext col res : Nat) (w : World) (hS : S ≤ 12) (b1 : 1 ≤ r1 ∧ r1 ≤ S + 2) (b2 : 1 ≤ r2 ∧ r2 ≤ S + 2) (b3 : al ≤ 100 ∧ ac ≤ 100 ∧ ext ≤ 100) (b4 : q1 ≤ 30 ∧ q2 ≤ 30)
    (hac : Hid (∀ w', Calls Tryf.prog 24 #[.int .i64 ((q1 : Int) - q2)] w' fun e w'' => e = .returned (.int .i64 (ac)) ∧ w'' = w')) (hal : Hid (∀ w', Calls Tryf.prog 24 #[.int .i64 ((r1 : Int) - r2)] w' fun e w'' => e = .returned (.int .i64 (al)) ∧ w'' = w'))
    (hX : Hid (∀ w', Calls Tryf.prog 78 #[.agg #[.int .i64 (A), .int .i64 (S), .int .i64 (P), .int .i64 D, .int .i64 rr, .int .i64 cc, pk], .int .i64 (q1), .int .i64 (q2)] w' fun e w'' => e = .returned (.tuple #[.int .i64 (col), .int .i64 (ext)]) ∧ ∃ z, w'' = w'.ext z))
    (h1 : 2 ≤ r1 ∧ r1 ≤ S + 1) (h2 : S + 2 ≤ r2) (hq : 1 ≤ ac) (hr : Hid (res = al + ac)) :
    Calls Tryf.prog 64 #[.agg #[.int .i64 (A), .int .i64 (S), .int .i64 (P), .int .i64 D, .int .i64 rr, .int .i64 cc, pk], .agg #[.int .i64 (r1), .int .i64 (q1)], .agg #[.int .i64 (r2), .int .i64 (q2)]] w fun e w' => e = .returned (.int .i64 (res)) ∧ ∃ z, w' = w.ext z := by
  have d1 : ((r1 : Int) == (1)) = false := by simp; omega
  have d2 : ((r1 : Int) == ((S : Int) + 2)) = false := by simp; omega
  have d3 : ((r2 : Int) == (1)) = false := by simp; omega
  have d4 : ((r2 : Int) == ((S : Int) + 2)) = true := by simp; omega
  have d5 : ((ac : Int) == (0)) = false := by simp; omega
  go_enter Tryf.func64, Tryf.ntmps64
  go_wp2_with (first | (go_at_call 71; refine (backRow_any _ _ _ _ _ _ _ _ (by omega)).mono ?_; rintro e w' ⟨rfl, z, rfl⟩) | (go_at_call 24; (first | with_reducible refine (hac.out _).mono ?_ | with_reducible refine (hal.out _).mono ?_); rintro e w' ⟨rfl, rfl⟩) | (go_at_call 78; refine (hX.out _).mono ?_; rintro e w' ⟨rfl, z, rfl⟩))
  all_goals (have hr2 := hr.out; first | (exfalso; omega) | (go_ret; refine ⟨ret_int (by omega), ?_⟩; refine Below.is_ext ?_; repeat (first | with_reducible exact Below.rf _ | with_reducible exact World.below_ext _ _ | with_reducible refine Below.ex ?_ _ | with_reducible refine Below.al ?_ _ | with_reducible refine Below.drew ?_)))
set_option maxRecDepth 20000 in
set_option maxHeartbeats 4000000 in
theorem ad_IIe (A P S : Nat) (D rr cc : Int) (pk : Value) (r1 q1 r2 q2 al ac ext col res : Nat) (w : World) (hS : S ≤ 12) (b1 : 1 ≤ r1 ∧ r1 ≤ S + 2) (b2 : 1 ≤ r2 ∧ r2 ≤ S + 2) (b3 : al ≤ 100 ∧ ac ≤ 100 ∧ ext ≤ 100) (b4 : q1 ≤ 30 ∧ q2 ≤ 30)
    (hac : Hid (∀ w', Calls Tryf.prog 24 #[.int .i64 ((q1 : Int) - q2)] w' fun e w'' => e = .returned (.int .i64 (ac)) ∧ w'' = w')) (hal : Hid (∀ w', Calls Tryf.prog 24 #[.int .i64 ((r1 : Int) - r2)] w' fun e w'' => e = .returned (.int .i64 (al)) ∧ w'' = w'))
    (hX : Hid (∀ w', Calls Tryf.prog 78 #[.agg #[.int .i64 (A), .int .i64 (S), .int .i64 (P), .int .i64 D, .int .i64 rr, .int .i64 cc, pk], .int .i64 (q1), .int .i64 (q2)] w' fun e w'' => e = .returned (.tuple #[.int .i64 (col), .int .i64 (ext)]) ∧ ∃ z, w'' = w'.ext z))
    (h1 : 2 ≤ r1 ∧ r1 ≤ S + 1) (h2 : 2 ≤ r2 ∧ r2 ≤ S + 1) (hq : ac ≤ 0) (hr : Hid (res = al)) :
    Calls Tryf.prog 64 #[.agg #[.int .i64 (A), .int .i64 (S), .int .i64 (P), .int .i64 D, .int .i64 rr, .int .i64 cc, pk], .agg #[.int .i64 (r1), .int .i64 (q1)], .agg #[.int .i64 (r2), .int .i64 (q2)]] w fun e w' => e = .returned (.int .i64 (res)) ∧ ∃ z, w' = w.ext z := by
  have d1 : ((r1 : Int) == (1)) = false := by simp; omega
  have d2 : ((r1 : Int) == ((S : Int) + 2)) = false := by simp; omega
  have d3 : ((r2 : Int) == (1)) = false := by simp; omega
  have d4 : ((r2 : Int) == ((S : Int) + 2)) = false := by simp; omega
  have d5 : ((ac : Int) == (0)) = true := by simp; omega
  go_enter Tryf.func64, Tryf.ntmps64
  go_wp2_with (first | (go_at_call 71; refine (backRow_any _ _ _ _ _ _ _ _ (by omega)).mono ?_; rintro e w' ⟨rfl, z, rfl⟩) | (go_at_call 24; (first | with_reducible refine (hac.out _).mono ?_ | with_reducible refine (hal.out _).mono ?_); rintro e w' ⟨rfl, rfl⟩) | (go_at_call 78; refine (hX.out _).mono ?_; rintro e w' ⟨rfl, z, rfl⟩))
  all_goals (have hr2 := hr.out; first | (exfalso; omega) | (go_ret; refine ⟨ret_int (by omega), ?_⟩; refine Below.is_ext ?_; repeat (first | with_reducible exact Below.rf _ | with_reducible exact World.below_ext _ _ | with_reducible refine Below.ex ?_ _ | with_reducible refine Below.al ?_ _ | with_reducible refine Below.drew ?_)))
set_option maxRecDepth 20000 in
set_option maxHeartbeats 4000000 in
theorem ad_IIn1 (A P S : Nat) (D rr cc : Int) (pk : Value) (r1 q1 r2 q2 al ac ext col res : Nat) (w : World) (hS : S ≤ 12) (b1 : 1 ≤ r1 ∧ r1 ≤ S + 2) (b2 : 1 ≤ r2 ∧ r2 ≤ S + 2) (b3 : al ≤ 100 ∧ ac ≤ 100 ∧ ext ≤ 100) (b4 : q1 ≤ 30 ∧ q2 ≤ 30)
    (hac : Hid (∀ w', Calls Tryf.prog 24 #[.int .i64 ((q1 : Int) - q2)] w' fun e w'' => e = .returned (.int .i64 (ac)) ∧ w'' = w')) (hal : Hid (∀ w', Calls Tryf.prog 24 #[.int .i64 ((r1 : Int) - r2)] w' fun e w'' => e = .returned (.int .i64 (al)) ∧ w'' = w'))
    (hX : Hid (∀ w', Calls Tryf.prog 78 #[.agg #[.int .i64 (A), .int .i64 (S), .int .i64 (P), .int .i64 D, .int .i64 rr, .int .i64 cc, pk], .int .i64 (q1), .int .i64 (q2)] w' fun e w'' => e = .returned (.tuple #[.int .i64 (col), .int .i64 (ext)]) ∧ ∃ z, w'' = w'.ext z))
    (h1 : 2 ≤ r1 ∧ r1 ≤ S + 1) (h2 : 2 ≤ r2 ∧ r2 ≤ S + 1) (hq : 1 ≤ ac) (hr : Hid (res = ac + (r1 - 1 + (r2 - 1)))) (ho : r1 - 1 + (r2 - 1) < S + 2 - r1 + (S + 2 - r2)) :
    Calls Tryf.prog 64 #[.agg #[.int .i64 (A), .int .i64 (S), .int .i64 (P), .int .i64 D, .int .i64 rr, .int .i64 cc, pk], .agg #[.int .i64 (r1), .int .i64 (q1)], .agg #[.int .i64 (r2), .int .i64 (q2)]] w fun e w' => e = .returned (.int .i64 (res)) ∧ ∃ z, w' = w.ext z := by
  have d1 : ((r1 : Int) == (1)) = false := by simp; omega
  have d2 : ((r1 : Int) == ((S : Int) + 2)) = false := by simp; omega
  have d3 : ((r2 : Int) == (1)) = false := by simp; omega
  have d4 : ((r2 : Int) == ((S : Int) + 2)) = false := by simp; omega
  have d5 : ((ac : Int) == (0)) = false := by simp; omega
  go_enter Tryf.func64, Tryf.ntmps64
  go_wp2_with (first | (go_at_call 71; refine (backRow_any _ _ _ _ _ _ _ _ (by omega)).mono ?_; rintro e w' ⟨rfl, z, rfl⟩) | (go_at_call 24; (first | with_reducible refine (hac.out _).mono ?_ | with_reducible refine (hal.out _).mono ?_); rintro e w' ⟨rfl, rfl⟩) | (go_at_call 78; refine (hX.out _).mono ?_; rintro e w' ⟨rfl, z, rfl⟩))
  all_goals (have hr2 := hr.out; first | (exfalso; omega) | (go_ret; refine ⟨ret_int (by omega), ?_⟩; refine Below.is_ext ?_; repeat (first | with_reducible exact Below.rf _ | with_reducible exact World.below_ext _ _ | with_reducible refine Below.ex ?_ _ | with_reducible refine Below.al ?_ _ | with_reducible refine Below.drew ?_)))
set_option maxRecDepth 20000 in
set_option maxHeartbeats 4000000 in
theorem ad_IIn2 (A P S : Nat) (D rr cc : Int) (pk : Value) (r1 q1 r2 q2 al ac ext col res : Nat) (w : World) (hS : S ≤ 12) (b1 : 1 ≤ r1 ∧ r1 ≤ S + 2) (b2 : 1 ≤ r2 ∧ r2 ≤ S + 2) (b3 : al ≤ 100 ∧ ac ≤ 100 ∧ ext ≤ 100) (b4 : q1 ≤ 30 ∧ q2 ≤ 30)
    (hac : Hid (∀ w', Calls Tryf.prog 24 #[.int .i64 ((q1 : Int) - q2)] w' fun e w'' => e = .returned (.int .i64 (ac)) ∧ w'' = w')) (hal : Hid (∀ w', Calls Tryf.prog 24 #[.int .i64 ((r1 : Int) - r2)] w' fun e w'' => e = .returned (.int .i64 (al)) ∧ w'' = w'))
    (hX : Hid (∀ w', Calls Tryf.prog 78 #[.agg #[.int .i64 (A), .int .i64 (S), .int .i64 (P), .int .i64 D, .int .i64 rr, .int .i64 cc, pk], .int .i64 (q1), .int .i64 (q2)] w' fun e w'' => e = .returned (.tuple #[.int .i64 (col), .int .i64 (ext)]) ∧ ∃ z, w'' = w'.ext z))
    (h1 : 2 ≤ r1 ∧ r1 ≤ S + 1) (h2 : 2 ≤ r2 ∧ r2 ≤ S + 1) (hq : 1 ≤ ac) (hr : Hid (res = ac + (r1 - 1 + (r2 - 1)))) (ho : r1 - 1 + (r2 - 1) ≤ S + 2 - r1 + (S + 2 - r2) ∧ S + 2 - r1 + (S + 2 - r2) ≤ r1 - 1 + (r2 - 1)) :
    Calls Tryf.prog 64 #[.agg #[.int .i64 (A), .int .i64 (S), .int .i64 (P), .int .i64 D, .int .i64 rr, .int .i64 cc, pk], .agg #[.int .i64 (r1), .int .i64 (q1)], .agg #[.int .i64 (r2), .int .i64 (q2)]] w fun e w' => e = .returned (.int .i64 (res)) ∧ ∃ z, w' = w.ext z := by
  have d1 : ((r1 : Int) == (1)) = false := by simp; omega
  have d2 : ((r1 : Int) == ((S : Int) + 2)) = false := by simp; omega
  have d3 : ((r2 : Int) == (1)) = false := by simp; omega
  have d4 : ((r2 : Int) == ((S : Int) + 2)) = false := by simp; omega
  have d5 : ((ac : Int) == (0)) = false := by simp; omega
  go_enter Tryf.func64, Tryf.ntmps64
  go_wp2_with (first | (go_at_call 71; refine (backRow_any _ _ _ _ _ _ _ _ (by omega)).mono ?_; rintro e w' ⟨rfl, z, rfl⟩) | (go_at_call 24; (first | with_reducible refine (hac.out _).mono ?_ | with_reducible refine (hal.out _).mono ?_); rintro e w' ⟨rfl, rfl⟩) | (go_at_call 78; refine (hX.out _).mono ?_; rintro e w' ⟨rfl, z, rfl⟩))
  all_goals (have hr2 := hr.out; first | (exfalso; omega) | (go_ret; refine ⟨ret_int (by omega), ?_⟩; refine Below.is_ext ?_; repeat (first | with_reducible exact Below.rf _ | with_reducible exact World.below_ext _ _ | with_reducible refine Below.ex ?_ _ | with_reducible refine Below.al ?_ _ | with_reducible refine Below.drew ?_)))
set_option maxRecDepth 20000 in
set_option maxHeartbeats 4000000 in
theorem ad_IIn3 (A P S : Nat) (D rr cc : Int) (pk : Value) (r1 q1 r2 q2 al ac ext col res : Nat) (w : World) (hS : S ≤ 12) (b1 : 1 ≤ r1 ∧ r1 ≤ S + 2) (b2 : 1 ≤ r2 ∧ r2 ≤ S + 2) (b3 : al ≤ 100 ∧ ac ≤ 100 ∧ ext ≤ 100) (b4 : q1 ≤ 30 ∧ q2 ≤ 30)
    (hac : Hid (∀ w', Calls Tryf.prog 24 #[.int .i64 ((q1 : Int) - q2)] w' fun e w'' => e = .returned (.int .i64 (ac)) ∧ w'' = w')) (hal : Hid (∀ w', Calls Tryf.prog 24 #[.int .i64 ((r1 : Int) - r2)] w' fun e w'' => e = .returned (.int .i64 (al)) ∧ w'' = w'))
    (hX : Hid (∀ w', Calls Tryf.prog 78 #[.agg #[.int .i64 (A), .int .i64 (S), .int .i64 (P), .int .i64 D, .int .i64 rr, .int .i64 cc, pk], .int .i64 (q1), .int .i64 (q2)] w' fun e w'' => e = .returned (.tuple #[.int .i64 (col), .int .i64 (ext)]) ∧ ∃ z, w'' = w'.ext z))
    (h1 : 2 ≤ r1 ∧ r1 ≤ S + 1) (h2 : 2 ≤ r2 ∧ r2 ≤ S + 1) (hq : 1 ≤ ac) (hr : Hid (res = ac + (S + 2 - r1 + (S + 2 - r2)))) (ho : r1 - 1 + (r2 - 1) > S + 2 - r1 + (S + 2 - r2)) :
    Calls Tryf.prog 64 #[.agg #[.int .i64 (A), .int .i64 (S), .int .i64 (P), .int .i64 D, .int .i64 rr, .int .i64 cc, pk], .agg #[.int .i64 (r1), .int .i64 (q1)], .agg #[.int .i64 (r2), .int .i64 (q2)]] w fun e w' => e = .returned (.int .i64 (res)) ∧ ∃ z, w' = w.ext z := by
  have d1 : ((r1 : Int) == (1)) = false := by simp; omega
  have d2 : ((r1 : Int) == ((S : Int) + 2)) = false := by simp; omega
  have d3 : ((r2 : Int) == (1)) = false := by simp; omega
  have d4 : ((r2 : Int) == ((S : Int) + 2)) = false := by simp; omega
  have d5 : ((ac : Int) == (0)) = false := by simp; omega
  go_enter Tryf.func64, Tryf.ntmps64
  go_wp2_with (first | (go_at_call 71; refine (backRow_any _ _ _ _ _ _ _ _ (by omega)).mono ?_; rintro e w' ⟨rfl, z, rfl⟩) | (go_at_call 24; (first | with_reducible refine (hac.out _).mono ?_ | with_reducible refine (hal.out _).mono ?_); rintro e w' ⟨rfl, rfl⟩) | (go_at_call 78; refine (hX.out _).mono ?_; rintro e w' ⟨rfl, z, rfl⟩))
  all_goals (have hr2 := hr.out; first | (exfalso; omega) | (go_ret; refine ⟨ret_int (by omega), ?_⟩; refine Below.is_ext ?_; repeat (first | with_reducible exact Below.rf _ | with_reducible exact World.below_ext _ _ | with_reducible refine Below.ex ?_ _ | with_reducible refine Below.al ?_ _ | with_reducible refine Below.drew ?_)))
end Go.Proofs.Qxb6500715aFmt
