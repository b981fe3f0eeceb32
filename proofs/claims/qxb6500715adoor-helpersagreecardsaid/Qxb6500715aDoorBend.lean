/-
  bends: the walk.
-/
import Derived.Test.Qxb6500715aDoorDist
import Derived.Test.Qxb6500715aDoorTow
import Derived.Test.Qxb6500715aDoorPad
namespace Go.Proofs.Qxb6500715aDoor
open Go.RowKit
set_option linter.unusedSimpArgs false
set_option linter.unusedVariables false

/-- Places as cells. -/
def prow (U : List (Nat × Nat)) : List Value := U.flatMap fun p => [.int .i64 (p.1), .int .i64 (p.2)]
theorem prow_len (U : List (Nat × Nat)) : (prow U).length = 2 * U.length := by
  induction U with
  | nil => rfl
  | cons p U ih => simp [prow] at ih ⊢; omega
theorem prow_app (U V : List (Nat × Nat)) : prow (U ++ V) = prow U ++ prow V := by simp [prow]
/-- What bends hands back. -/
def bendPost (B : Nat) (vs : List Value) (X : List (Nat × Nat)) (w : World) (e : Ending) (w' : World) : Prop :=
  e = .returned (.slice (some ⟨B, 0, none⟩) (1 + X.length) 5) ∧ Pad w' B 10 (vs ++ prow X) ∧ KeptBut B w w'


set_option maxRecDepth 20000 in
set_option maxHeartbeats 4000000 in
theorem bends_FF (A P S : Nat) (D rr cc : Int) (pk : Value) (r1 q1 r2 q2 col ext B : Nat) (vs : List Value) (w : World) (hS : S ≤ 12) (b1 : 1 ≤ r1 ∧ r1 ≤ S + 2) (b2 : 1 ≤ r2 ∧ r2 ≤ S + 2) (b4 : q1 ≤ 30 ∧ q2 ≤ 30) (b5 : col ≤ 30)
    (hX : Hid (∀ w', Calls Tryd.prog 96 #[.agg #[.int .i64 (A), .int .i64 (S), .int .i64 (P), .int .i64 D, .int .i64 rr, .int .i64 cc, pk], .int .i64 (q1), .int .i64 (q2)] w' fun e w'' => e = .returned (.tuple #[.int .i64 (col), .int .i64 (ext)]) ∧ ∃ z, w'' = w'.ext z)) (HP : Hid (Pad w B 10 vs)) (hvs : vs.length = 2) (h1 : r1 ≤ 1) (h2 : r2 ≤ 1) :
    Calls Tryd.prog 112 #[.agg #[.int .i64 (A), .int .i64 (S), .int .i64 (P), .int .i64 D, .int .i64 rr, .int .i64 cc, pk], .slice (some ⟨B, 0, none⟩) 1 5, .agg #[.int .i64 (r1), .int .i64 (q1)], .agg #[.int .i64 (r2), .int .i64 (q2)]] w (bendPost B vs [] w) := by
  have d1 : ((r1 : Int) == (1)) = true := by simp; omega
  have d3 : ((r2 : Int) == (1)) = true := by simp; omega
  have d6 : ((r1 : Int) == (r2 : Int)) = true := by simp; omega
  go_enter Tryd.func112, Tryd.ntmps112
  go_wp2_with (first | (go_at_call 94; refine (backRow_any _ _ _ _ _ _ _ _ (by omega)).mono ?_; rintro e w' ⟨rfl, z, rfl⟩) | (go_at_call 96; refine (hX.out _).mono ?_; rintro e w' ⟨rfl, z2, rfl⟩) | (at_builtin; refine hold ?_))
  go_ret
  refine ⟨rfl, by rw [show prow [] = [] from rfl, List.append_nil]; refine HP.out.below ?_; (repeat (first | with_reducible exact Below.rf _ | with_reducible exact World.below_ext _ _ | with_reducible refine Below.ex ?_ _ | with_reducible refine Below.al ?_ _)), ?_⟩
  repeat (first | with_reducible exact KeptBut.refl _ _ | with_reducible refine KeptBut.ex ?_ _ | with_reducible refine KeptBut.al ?_ _)
set_option maxRecDepth 20000 in
set_option maxHeartbeats 4000000 in
theorem bends_BB (A P S : Nat) (D rr cc : Int) (pk : Value) (r1 q1 r2 q2 col ext B : Nat) (vs : List Value) (w : World) (hS : S ≤ 12) (b1 : 1 ≤ r1 ∧ r1 ≤ S + 2) (b2 : 1 ≤ r2 ∧ r2 ≤ S + 2) (b4 : q1 ≤ 30 ∧ q2 ≤ 30) (b5 : col ≤ 30)
    (hX : Hid (∀ w', Calls Tryd.prog 96 #[.agg #[.int .i64 (A), .int .i64 (S), .int .i64 (P), .int .i64 D, .int .i64 rr, .int .i64 cc, pk], .int .i64 (q1), .int .i64 (q2)] w' fun e w'' => e = .returned (.tuple #[.int .i64 (col), .int .i64 (ext)]) ∧ ∃ z, w'' = w'.ext z)) (HP : Hid (Pad w B 10 vs)) (hvs : vs.length = 2) (h1 : S + 2 ≤ r1) (h2 : S + 2 ≤ r2) :
    Calls Tryd.prog 112 #[.agg #[.int .i64 (A), .int .i64 (S), .int .i64 (P), .int .i64 D, .int .i64 rr, .int .i64 cc, pk], .slice (some ⟨B, 0, none⟩) 1 5, .agg #[.int .i64 (r1), .int .i64 (q1)], .agg #[.int .i64 (r2), .int .i64 (q2)]] w (bendPost B vs [] w) := by
  have d1 : ((r1 : Int) == (1)) = false := by simp; omega
  have d2 : ((r1 : Int) == ((S : Int) + 2)) = true := by simp; omega
  have d3 : ((r2 : Int) == (1)) = false := by simp; omega
  have d4 : ((r2 : Int) == ((S : Int) + 2)) = true := by simp; omega
  have d6 : ((r1 : Int) == (r2 : Int)) = true := by simp; omega
  go_enter Tryd.func112, Tryd.ntmps112
  go_wp2_with (first | (go_at_call 94; refine (backRow_any _ _ _ _ _ _ _ _ (by omega)).mono ?_; rintro e w' ⟨rfl, z, rfl⟩) | (go_at_call 96; refine (hX.out _).mono ?_; rintro e w' ⟨rfl, z2, rfl⟩) | (at_builtin; refine hold ?_))
  go_ret
  refine ⟨rfl, by rw [show prow [] = [] from rfl, List.append_nil]; refine HP.out.below ?_; (repeat (first | with_reducible exact Below.rf _ | with_reducible exact World.below_ext _ _ | with_reducible refine Below.ex ?_ _ | with_reducible refine Below.al ?_ _)), ?_⟩
  repeat (first | with_reducible exact KeptBut.refl _ _ | with_reducible refine KeptBut.ex ?_ _ | with_reducible refine KeptBut.al ?_ _)
set_option maxRecDepth 20000 in
set_option maxHeartbeats 4000000 in
theorem bends_FB (A P S : Nat) (D rr cc : Int) (pk : Value) (r1 q1 r2 q2 col ext B : Nat) (vs : List Value) (w : World) (hS : S ≤ 12) (b1 : 1 ≤ r1 ∧ r1 ≤ S + 2) (b2 : 1 ≤ r2 ∧ r2 ≤ S + 2) (b4 : q1 ≤ 30 ∧ q2 ≤ 30) (b5 : col ≤ 30)
    (hX : Hid (∀ w', Calls Tryd.prog 96 #[.agg #[.int .i64 (A), .int .i64 (S), .int .i64 (P), .int .i64 D, .int .i64 rr, .int .i64 cc, pk], .int .i64 (q1), .int .i64 (q2)] w' fun e w'' => e = .returned (.tuple #[.int .i64 (col), .int .i64 (ext)]) ∧ ∃ z, w'' = w'.ext z)) (HP : Hid (Pad w B 10 vs)) (hvs : vs.length = 2) (h1 : r1 ≤ 1) (h2 : S + 2 ≤ r2) :
    Calls Tryd.prog 112 #[.agg #[.int .i64 (A), .int .i64 (S), .int .i64 (P), .int .i64 D, .int .i64 rr, .int .i64 cc, pk], .slice (some ⟨B, 0, none⟩) 1 5, .agg #[.int .i64 (r1), .int .i64 (q1)], .agg #[.int .i64 (r2), .int .i64 (q2)]] w (bendPost B vs [(r1, col), (r2, col)] w) := by
  have d1 : ((r1 : Int) == (1)) = true := by simp; omega
  have d3 : ((r2 : Int) == (1)) = false := by simp; omega
  have d4 : ((r2 : Int) == ((S : Int) + 2)) = true := by simp; omega
  have d6 : ((r1 : Int) == (r2 : Int)) = false := by simp; omega
  go_enter Tryd.func112, Tryd.ntmps112
  go_wp2_with (first | (go_at_call 94; refine (backRow_any _ _ _ _ _ _ _ _ (by omega)).mono ?_; rintro e w' ⟨rfl, z, rfl⟩) | (go_at_call 96; refine (hX.out _).mono ?_; rintro e w' ⟨rfl, z2, rfl⟩) | (at_builtin; refine hold ?_))
  unfold Hid
  refine wp_pad rfl _ _ 64 rfl 63 (.agg #[.int .i64 (0), .int .i64 (0)]) 2 16 Tryd.underlying64 (by kernel_rfl) B 1 5 10 vs rfl (HP.out.below ?_) (by omega) _ 0 2 2 (prow [(r1, col), (r2, col)]) rfl rfl ?_ (by simp [prow, Value.oneCell']) (by omega) (by omega) ?_
  · repeat (first | with_reducible exact Below.rf _ | with_reducible exact World.below_ext _ _ | with_reducible refine Below.ex ?_ _ | with_reducible refine Below.al ?_ _)
  · intro j u hj; simp [prow] at hj; simp [go_sem, ↓IntWalk.iteOmega]; simpa using hj
  intro w1 hp1 hk1 hs1
  go_wp2
  go_ret
  refine ⟨rfl, hp1, KeptBut.trans ?_ hk1⟩
  repeat (first | with_reducible exact KeptBut.refl _ _ | with_reducible refine KeptBut.ex ?_ _ | with_reducible refine KeptBut.al ?_ _)
set_option maxRecDepth 20000 in
set_option maxHeartbeats 4000000 in
theorem bends_BF (A P S : Nat) (D rr cc : Int) (pk : Value) (r1 q1 r2 q2 col ext B : Nat) (vs : List Value) (w : World) (hS : S ≤ 12) (b1 : 1 ≤ r1 ∧ r1 ≤ S + 2) (b2 : 1 ≤ r2 ∧ r2 ≤ S + 2) (b4 : q1 ≤ 30 ∧ q2 ≤ 30) (b5 : col ≤ 30)
    (hX : Hid (∀ w', Calls Tryd.prog 96 #[.agg #[.int .i64 (A), .int .i64 (S), .int .i64 (P), .int .i64 D, .int .i64 rr, .int .i64 cc, pk], .int .i64 (q1), .int .i64 (q2)] w' fun e w'' => e = .returned (.tuple #[.int .i64 (col), .int .i64 (ext)]) ∧ ∃ z, w'' = w'.ext z)) (HP : Hid (Pad w B 10 vs)) (hvs : vs.length = 2) (h1 : S + 2 ≤ r1) (h2 : r2 ≤ 1) :
    Calls Tryd.prog 112 #[.agg #[.int .i64 (A), .int .i64 (S), .int .i64 (P), .int .i64 D, .int .i64 rr, .int .i64 cc, pk], .slice (some ⟨B, 0, none⟩) 1 5, .agg #[.int .i64 (r1), .int .i64 (q1)], .agg #[.int .i64 (r2), .int .i64 (q2)]] w (bendPost B vs [(r1, col), (r2, col)] w) := by
  have d1 : ((r1 : Int) == (1)) = false := by simp; omega
  have d2 : ((r1 : Int) == ((S : Int) + 2)) = true := by simp; omega
  have d3 : ((r2 : Int) == (1)) = true := by simp; omega
  have d6 : ((r1 : Int) == (r2 : Int)) = false := by simp; omega
  go_enter Tryd.func112, Tryd.ntmps112
  go_wp2_with (first | (go_at_call 94; refine (backRow_any _ _ _ _ _ _ _ _ (by omega)).mono ?_; rintro e w' ⟨rfl, z, rfl⟩) | (go_at_call 96; refine (hX.out _).mono ?_; rintro e w' ⟨rfl, z2, rfl⟩) | (at_builtin; refine hold ?_))
  unfold Hid
  refine wp_pad rfl _ _ 64 rfl 63 (.agg #[.int .i64 (0), .int .i64 (0)]) 2 16 Tryd.underlying64 (by kernel_rfl) B 1 5 10 vs rfl (HP.out.below ?_) (by omega) _ 0 2 2 (prow [(r1, col), (r2, col)]) rfl rfl ?_ (by simp [prow, Value.oneCell']) (by omega) (by omega) ?_
  · repeat (first | with_reducible exact Below.rf _ | with_reducible exact World.below_ext _ _ | with_reducible refine Below.ex ?_ _ | with_reducible refine Below.al ?_ _)
  · intro j u hj; simp [prow] at hj; simp [go_sem, ↓IntWalk.iteOmega]; simpa using hj
  intro w1 hp1 hk1 hs1
  go_wp2
  go_ret
  refine ⟨rfl, hp1, KeptBut.trans ?_ hk1⟩
  repeat (first | with_reducible exact KeptBut.refl _ _ | with_reducible refine KeptBut.ex ?_ _ | with_reducible refine KeptBut.al ?_ _)
set_option maxRecDepth 20000 in
set_option maxHeartbeats 4000000 in
theorem bends_FIe (A P S : Nat) (D rr cc : Int) (pk : Value) (r1 q1 r2 q2 col ext B : Nat) (vs : List Value) (w : World) (hS : S ≤ 12) (b1 : 1 ≤ r1 ∧ r1 ≤ S + 2) (b2 : 1 ≤ r2 ∧ r2 ≤ S + 2) (b4 : q1 ≤ 30 ∧ q2 ≤ 30) (b5 : col ≤ 30)
    (hX : Hid (∀ w', Calls Tryd.prog 96 #[.agg #[.int .i64 (A), .int .i64 (S), .int .i64 (P), .int .i64 D, .int .i64 rr, .int .i64 cc, pk], .int .i64 (q1), .int .i64 (q2)] w' fun e w'' => e = .returned (.tuple #[.int .i64 (col), .int .i64 (ext)]) ∧ ∃ z, w'' = w'.ext z)) (HP : Hid (Pad w B 10 vs)) (hvs : vs.length = 2) (h1 : r1 ≤ 1) (h2 : 2 ≤ r2 ∧ r2 ≤ S + 1) (hq : q1 ≤ q2 ∧ q2 ≤ q1) :
    Calls Tryd.prog 112 #[.agg #[.int .i64 (A), .int .i64 (S), .int .i64 (P), .int .i64 D, .int .i64 rr, .int .i64 cc, pk], .slice (some ⟨B, 0, none⟩) 1 5, .agg #[.int .i64 (r1), .int .i64 (q1)], .agg #[.int .i64 (r2), .int .i64 (q2)]] w (bendPost B vs [] w) := by
  have d1 : ((r1 : Int) == (1)) = true := by simp; omega
  have d3 : ((r2 : Int) == (1)) = false := by simp; omega
  have d4 : ((r2 : Int) == ((S : Int) + 2)) = false := by simp; omega
  have d5 : ((q1 : Int) == (q2 : Int)) = true := by simp; omega
  go_enter Tryd.func112, Tryd.ntmps112
  go_wp2_with (first | (go_at_call 94; refine (backRow_any _ _ _ _ _ _ _ _ (by omega)).mono ?_; rintro e w' ⟨rfl, z, rfl⟩) | (go_at_call 96; refine (hX.out _).mono ?_; rintro e w' ⟨rfl, z2, rfl⟩) | (at_builtin; refine hold ?_))
  go_ret
  refine ⟨rfl, by rw [show prow [] = [] from rfl, List.append_nil]; refine HP.out.below ?_; (repeat (first | with_reducible exact Below.rf _ | with_reducible exact World.below_ext _ _ | with_reducible refine Below.ex ?_ _ | with_reducible refine Below.al ?_ _)), ?_⟩
  repeat (first | with_reducible exact KeptBut.refl _ _ | with_reducible refine KeptBut.ex ?_ _ | with_reducible refine KeptBut.al ?_ _)
set_option maxRecDepth 20000 in
set_option maxHeartbeats 4000000 in
theorem bends_BIe (A P S : Nat) (D rr cc : Int) (pk : Value) (r1 q1 r2 q2 col ext B : Nat) (vs : List Value) (w : World) (hS : S ≤ 12) (b1 : 1 ≤ r1 ∧ r1 ≤ S + 2) (b2 : 1 ≤ r2 ∧ r2 ≤ S + 2) (b4 : q1 ≤ 30 ∧ q2 ≤ 30) (b5 : col ≤ 30)
    (hX : Hid (∀ w', Calls Tryd.prog 96 #[.agg #[.int .i64 (A), .int .i64 (S), .int .i64 (P), .int .i64 D, .int .i64 rr, .int .i64 cc, pk], .int .i64 (q1), .int .i64 (q2)] w' fun e w'' => e = .returned (.tuple #[.int .i64 (col), .int .i64 (ext)]) ∧ ∃ z, w'' = w'.ext z)) (HP : Hid (Pad w B 10 vs)) (hvs : vs.length = 2) (h1 : S + 2 ≤ r1) (h2 : 2 ≤ r2 ∧ r2 ≤ S + 1) (hq : q1 ≤ q2 ∧ q2 ≤ q1) :
    Calls Tryd.prog 112 #[.agg #[.int .i64 (A), .int .i64 (S), .int .i64 (P), .int .i64 D, .int .i64 rr, .int .i64 cc, pk], .slice (some ⟨B, 0, none⟩) 1 5, .agg #[.int .i64 (r1), .int .i64 (q1)], .agg #[.int .i64 (r2), .int .i64 (q2)]] w (bendPost B vs [] w) := by
  have d1 : ((r1 : Int) == (1)) = false := by simp; omega
  have d2 : ((r1 : Int) == ((S : Int) + 2)) = true := by simp; omega
  have d3 : ((r2 : Int) == (1)) = false := by simp; omega
  have d4 : ((r2 : Int) == ((S : Int) + 2)) = false := by simp; omega
  have d5 : ((q1 : Int) == (q2 : Int)) = true := by simp; omega
  go_enter Tryd.func112, Tryd.ntmps112
  go_wp2_with (first | (go_at_call 94; refine (backRow_any _ _ _ _ _ _ _ _ (by omega)).mono ?_; rintro e w' ⟨rfl, z, rfl⟩) | (go_at_call 96; refine (hX.out _).mono ?_; rintro e w' ⟨rfl, z2, rfl⟩) | (at_builtin; refine hold ?_))
  go_ret
  refine ⟨rfl, by rw [show prow [] = [] from rfl, List.append_nil]; refine HP.out.below ?_; (repeat (first | with_reducible exact Below.rf _ | with_reducible exact World.below_ext _ _ | with_reducible refine Below.ex ?_ _ | with_reducible refine Below.al ?_ _)), ?_⟩
  repeat (first | with_reducible exact KeptBut.refl _ _ | with_reducible refine KeptBut.ex ?_ _ | with_reducible refine KeptBut.al ?_ _)
set_option maxRecDepth 20000 in
set_option maxHeartbeats 4000000 in
theorem bends_IFe (A P S : Nat) (D rr cc : Int) (pk : Value) (r1 q1 r2 q2 col ext B : Nat) (vs : List Value) (w : World) (hS : S ≤ 12) (b1 : 1 ≤ r1 ∧ r1 ≤ S + 2) (b2 : 1 ≤ r2 ∧ r2 ≤ S + 2) (b4 : q1 ≤ 30 ∧ q2 ≤ 30) (b5 : col ≤ 30)
    (hX : Hid (∀ w', Calls Tryd.prog 96 #[.agg #[.int .i64 (A), .int .i64 (S), .int .i64 (P), .int .i64 D, .int .i64 rr, .int .i64 cc, pk], .int .i64 (q1), .int .i64 (q2)] w' fun e w'' => e = .returned (.tuple #[.int .i64 (col), .int .i64 (ext)]) ∧ ∃ z, w'' = w'.ext z)) (HP : Hid (Pad w B 10 vs)) (hvs : vs.length = 2) (h1 : 2 ≤ r1 ∧ r1 ≤ S + 1) (h2 : r2 ≤ 1) (hq : q1 ≤ q2 ∧ q2 ≤ q1) :
    Calls Tryd.prog 112 #[.agg #[.int .i64 (A), .int .i64 (S), .int .i64 (P), .int .i64 D, .int .i64 rr, .int .i64 cc, pk], .slice (some ⟨B, 0, none⟩) 1 5, .agg #[.int .i64 (r1), .int .i64 (q1)], .agg #[.int .i64 (r2), .int .i64 (q2)]] w (bendPost B vs [] w) := by
  have d1 : ((r1 : Int) == (1)) = false := by simp; omega
  have d2 : ((r1 : Int) == ((S : Int) + 2)) = false := by simp; omega
  have d3 : ((r2 : Int) == (1)) = true := by simp; omega
  have d5 : ((q1 : Int) == (q2 : Int)) = true := by simp; omega
  go_enter Tryd.func112, Tryd.ntmps112
  go_wp2_with (first | (go_at_call 94; refine (backRow_any _ _ _ _ _ _ _ _ (by omega)).mono ?_; rintro e w' ⟨rfl, z, rfl⟩) | (go_at_call 96; refine (hX.out _).mono ?_; rintro e w' ⟨rfl, z2, rfl⟩) | (at_builtin; refine hold ?_))
  go_ret
  refine ⟨rfl, by rw [show prow [] = [] from rfl, List.append_nil]; refine HP.out.below ?_; (repeat (first | with_reducible exact Below.rf _ | with_reducible exact World.below_ext _ _ | with_reducible refine Below.ex ?_ _ | with_reducible refine Below.al ?_ _)), ?_⟩
  repeat (first | with_reducible exact KeptBut.refl _ _ | with_reducible refine KeptBut.ex ?_ _ | with_reducible refine KeptBut.al ?_ _)
set_option maxRecDepth 20000 in
set_option maxHeartbeats 4000000 in
theorem bends_IBe (A P S : Nat) (D rr cc : Int) (pk : Value) (r1 q1 r2 q2 col ext B : Nat) (vs : List Value) (w : World) (hS : S ≤ 12) (b1 : 1 ≤ r1 ∧ r1 ≤ S + 2) (b2 : 1 ≤ r2 ∧ r2 ≤ S + 2) (b4 : q1 ≤ 30 ∧ q2 ≤ 30) (b5 : col ≤ 30)
    (hX : Hid (∀ w', Calls Tryd.prog 96 #[.agg #[.int .i64 (A), .int .i64 (S), .int .i64 (P), .int .i64 D, .int .i64 rr, .int .i64 cc, pk], .int .i64 (q1), .int .i64 (q2)] w' fun e w'' => e = .returned (.tuple #[.int .i64 (col), .int .i64 (ext)]) ∧ ∃ z, w'' = w'.ext z)) (HP : Hid (Pad w B 10 vs)) (hvs : vs.length = 2) (h1 : 2 ≤ r1 ∧ r1 ≤ S + 1) (h2 : S + 2 ≤ r2) (hq : q1 ≤ q2 ∧ q2 ≤ q1) :
    Calls Tryd.prog 112 #[.agg #[.int .i64 (A), .int .i64 (S), .int .i64 (P), .int .i64 D, .int .i64 rr, .int .i64 cc, pk], .slice (some ⟨B, 0, none⟩) 1 5, .agg #[.int .i64 (r1), .int .i64 (q1)], .agg #[.int .i64 (r2), .int .i64 (q2)]] w (bendPost B vs [] w) := by
  have d1 : ((r1 : Int) == (1)) = false := by simp; omega
  have d2 : ((r1 : Int) == ((S : Int) + 2)) = false := by simp; omega
  have d3 : ((r2 : Int) == (1)) = false := by simp; omega
  have d4 : ((r2 : Int) == ((S : Int) + 2)) = true := by simp; omega
  have d5 : ((q1 : Int) == (q2 : Int)) = true := by simp; omega
  go_enter Tryd.func112, Tryd.ntmps112
  go_wp2_with (first | (go_at_call 94; refine (backRow_any _ _ _ _ _ _ _ _ (by omega)).mono ?_; rintro e w' ⟨rfl, z, rfl⟩) | (go_at_call 96; refine (hX.out _).mono ?_; rintro e w' ⟨rfl, z2, rfl⟩) | (at_builtin; refine hold ?_))
  go_ret
  refine ⟨rfl, by rw [show prow [] = [] from rfl, List.append_nil]; refine HP.out.below ?_; (repeat (first | with_reducible exact Below.rf _ | with_reducible exact World.below_ext _ _ | with_reducible refine Below.ex ?_ _ | with_reducible refine Below.al ?_ _)), ?_⟩
  repeat (first | with_reducible exact KeptBut.refl _ _ | with_reducible refine KeptBut.ex ?_ _ | with_reducible refine KeptBut.al ?_ _)
set_option maxRecDepth 20000 in
set_option maxHeartbeats 4000000 in
theorem bends_IIe (A P S : Nat) (D rr cc : Int) (pk : Value) (r1 q1 r2 q2 col ext B : Nat) (vs : List Value) (w : World) (hS : S ≤ 12) (b1 : 1 ≤ r1 ∧ r1 ≤ S + 2) (b2 : 1 ≤ r2 ∧ r2 ≤ S + 2) (b4 : q1 ≤ 30 ∧ q2 ≤ 30) (b5 : col ≤ 30)
    (hX : Hid (∀ w', Calls Tryd.prog 96 #[.agg #[.int .i64 (A), .int .i64 (S), .int .i64 (P), .int .i64 D, .int .i64 rr, .int .i64 cc, pk], .int .i64 (q1), .int .i64 (q2)] w' fun e w'' => e = .returned (.tuple #[.int .i64 (col), .int .i64 (ext)]) ∧ ∃ z, w'' = w'.ext z)) (HP : Hid (Pad w B 10 vs)) (hvs : vs.length = 2) (h1 : 2 ≤ r1 ∧ r1 ≤ S + 1) (h2 : 2 ≤ r2 ∧ r2 ≤ S + 1) (hq : q1 ≤ q2 ∧ q2 ≤ q1) :
    Calls Tryd.prog 112 #[.agg #[.int .i64 (A), .int .i64 (S), .int .i64 (P), .int .i64 D, .int .i64 rr, .int .i64 cc, pk], .slice (some ⟨B, 0, none⟩) 1 5, .agg #[.int .i64 (r1), .int .i64 (q1)], .agg #[.int .i64 (r2), .int .i64 (q2)]] w (bendPost B vs [] w) := by
  have d1 : ((r1 : Int) == (1)) = false := by simp; omega
  have d2 : ((r1 : Int) == ((S : Int) + 2)) = false := by simp; omega
  have d3 : ((r2 : Int) == (1)) = false := by simp; omega
  have d4 : ((r2 : Int) == ((S : Int) + 2)) = false := by simp; omega
  have d5 : ((q1 : Int) == (q2 : Int)) = true := by simp; omega
  go_enter Tryd.func112, Tryd.ntmps112
  go_wp2_with (first | (go_at_call 94; refine (backRow_any _ _ _ _ _ _ _ _ (by omega)).mono ?_; rintro e w' ⟨rfl, z, rfl⟩) | (go_at_call 96; refine (hX.out _).mono ?_; rintro e w' ⟨rfl, z2, rfl⟩) | (at_builtin; refine hold ?_))
  go_ret
  refine ⟨rfl, by rw [show prow [] = [] from rfl, List.append_nil]; refine HP.out.below ?_; (repeat (first | with_reducible exact Below.rf _ | with_reducible exact World.below_ext _ _ | with_reducible refine Below.ex ?_ _ | with_reducible refine Below.al ?_ _)), ?_⟩
  repeat (first | with_reducible exact KeptBut.refl _ _ | with_reducible refine KeptBut.ex ?_ _ | with_reducible refine KeptBut.al ?_ _)
set_option maxRecDepth 20000 in
set_option maxHeartbeats 4000000 in
theorem bends_FIn (A P S : Nat) (D rr cc : Int) (pk : Value) (r1 q1 r2 q2 col ext B : Nat) (vs : List Value) (w : World) (hS : S ≤ 12) (b1 : 1 ≤ r1 ∧ r1 ≤ S + 2) (b2 : 1 ≤ r2 ∧ r2 ≤ S + 2) (b4 : q1 ≤ 30 ∧ q2 ≤ 30) (b5 : col ≤ 30)
    (hX : Hid (∀ w', Calls Tryd.prog 96 #[.agg #[.int .i64 (A), .int .i64 (S), .int .i64 (P), .int .i64 D, .int .i64 rr, .int .i64 cc, pk], .int .i64 (q1), .int .i64 (q2)] w' fun e w'' => e = .returned (.tuple #[.int .i64 (col), .int .i64 (ext)]) ∧ ∃ z, w'' = w'.ext z)) (HP : Hid (Pad w B 10 vs)) (hvs : vs.length = 2) (h1 : r1 ≤ 1) (h2 : 2 ≤ r2 ∧ r2 ≤ S + 1) (hq : q1 < q2 ∨ q2 < q1) :
    Calls Tryd.prog 112 #[.agg #[.int .i64 (A), .int .i64 (S), .int .i64 (P), .int .i64 D, .int .i64 rr, .int .i64 cc, pk], .slice (some ⟨B, 0, none⟩) 1 5, .agg #[.int .i64 (r1), .int .i64 (q1)], .agg #[.int .i64 (r2), .int .i64 (q2)]] w (bendPost B vs [(r1, q2)] w) := by
  have d1 : ((r1 : Int) == (1)) = true := by simp; omega
  have d3 : ((r2 : Int) == (1)) = false := by simp; omega
  have d4 : ((r2 : Int) == ((S : Int) + 2)) = false := by simp; omega
  have d5 : ((q1 : Int) == (q2 : Int)) = false := by simp; omega
  go_enter Tryd.func112, Tryd.ntmps112
  go_wp2_with (first | (go_at_call 94; refine (backRow_any _ _ _ _ _ _ _ _ (by omega)).mono ?_; rintro e w' ⟨rfl, z, rfl⟩) | (go_at_call 96; refine (hX.out _).mono ?_; rintro e w' ⟨rfl, z2, rfl⟩) | (at_builtin; refine hold ?_))
  unfold Hid
  refine wp_pad rfl _ _ 64 rfl 63 (.agg #[.int .i64 (0), .int .i64 (0)]) 2 16 Tryd.underlying64 (by kernel_rfl) B 1 5 10 vs rfl (HP.out.below ?_) (by omega) _ 0 1 1 (prow [(r1, q2)]) rfl rfl ?_ (by simp [prow, Value.oneCell']) (by omega) (by omega) ?_
  · repeat (first | with_reducible exact Below.rf _ | with_reducible exact World.below_ext _ _ | with_reducible refine Below.ex ?_ _ | with_reducible refine Below.al ?_ _)
  · intro j u hj; simp [prow] at hj; simp [go_sem, ↓IntWalk.iteOmega]; simpa using hj
  intro w1 hp1 hk1 hs1
  go_wp2
  go_ret
  refine ⟨rfl, hp1, KeptBut.trans ?_ hk1⟩
  repeat (first | with_reducible exact KeptBut.refl _ _ | with_reducible refine KeptBut.ex ?_ _ | with_reducible refine KeptBut.al ?_ _)
set_option maxRecDepth 20000 in
set_option maxHeartbeats 4000000 in
theorem bends_BIn (A P S : Nat) (D rr cc : Int) (pk : Value) (r1 q1 r2 q2 col ext B : Nat) (vs : List Value) (w : World) (hS : S ≤ 12) (b1 : 1 ≤ r1 ∧ r1 ≤ S + 2) (b2 : 1 ≤ r2 ∧ r2 ≤ S + 2) (b4 : q1 ≤ 30 ∧ q2 ≤ 30) (b5 : col ≤ 30)
    (hX : Hid (∀ w', Calls Tryd.prog 96 #[.agg #[.int .i64 (A), .int .i64 (S), .int .i64 (P), .int .i64 D, .int .i64 rr, .int .i64 cc, pk], .int .i64 (q1), .int .i64 (q2)] w' fun e w'' => e = .returned (.tuple #[.int .i64 (col), .int .i64 (ext)]) ∧ ∃ z, w'' = w'.ext z)) (HP : Hid (Pad w B 10 vs)) (hvs : vs.length = 2) (h1 : S + 2 ≤ r1) (h2 : 2 ≤ r2 ∧ r2 ≤ S + 1) (hq : q1 < q2 ∨ q2 < q1) :
    Calls Tryd.prog 112 #[.agg #[.int .i64 (A), .int .i64 (S), .int .i64 (P), .int .i64 D, .int .i64 rr, .int .i64 cc, pk], .slice (some ⟨B, 0, none⟩) 1 5, .agg #[.int .i64 (r1), .int .i64 (q1)], .agg #[.int .i64 (r2), .int .i64 (q2)]] w (bendPost B vs [(r1, q2)] w) := by
  have d1 : ((r1 : Int) == (1)) = false := by simp; omega
  have d2 : ((r1 : Int) == ((S : Int) + 2)) = true := by simp; omega
  have d3 : ((r2 : Int) == (1)) = false := by simp; omega
  have d4 : ((r2 : Int) == ((S : Int) + 2)) = false := by simp; omega
  have d5 : ((q1 : Int) == (q2 : Int)) = false := by simp; omega
  go_enter Tryd.func112, Tryd.ntmps112
  go_wp2_with (first | (go_at_call 94; refine (backRow_any _ _ _ _ _ _ _ _ (by omega)).mono ?_; rintro e w' ⟨rfl, z, rfl⟩) | (go_at_call 96; refine (hX.out _).mono ?_; rintro e w' ⟨rfl, z2, rfl⟩) | (at_builtin; refine hold ?_))
  unfold Hid
  refine wp_pad rfl _ _ 64 rfl 63 (.agg #[.int .i64 (0), .int .i64 (0)]) 2 16 Tryd.underlying64 (by kernel_rfl) B 1 5 10 vs rfl (HP.out.below ?_) (by omega) _ 0 1 1 (prow [(r1, q2)]) rfl rfl ?_ (by simp [prow, Value.oneCell']) (by omega) (by omega) ?_
  · repeat (first | with_reducible exact Below.rf _ | with_reducible exact World.below_ext _ _ | with_reducible refine Below.ex ?_ _ | with_reducible refine Below.al ?_ _)
  · intro j u hj; simp [prow] at hj; simp [go_sem, ↓IntWalk.iteOmega]; simpa using hj
  intro w1 hp1 hk1 hs1
  go_wp2
  go_ret
  refine ⟨rfl, hp1, KeptBut.trans ?_ hk1⟩
  repeat (first | with_reducible exact KeptBut.refl _ _ | with_reducible refine KeptBut.ex ?_ _ | with_reducible refine KeptBut.al ?_ _)
set_option maxRecDepth 20000 in
set_option maxHeartbeats 4000000 in
theorem bends_IFn (A P S : Nat) (D rr cc : Int) (pk : Value) (r1 q1 r2 q2 col ext B : Nat) (vs : List Value) (w : World) (hS : S ≤ 12) (b1 : 1 ≤ r1 ∧ r1 ≤ S + 2) (b2 : 1 ≤ r2 ∧ r2 ≤ S + 2) (b4 : q1 ≤ 30 ∧ q2 ≤ 30) (b5 : col ≤ 30)
    (hX : Hid (∀ w', Calls Tryd.prog 96 #[.agg #[.int .i64 (A), .int .i64 (S), .int .i64 (P), .int .i64 D, .int .i64 rr, .int .i64 cc, pk], .int .i64 (q1), .int .i64 (q2)] w' fun e w'' => e = .returned (.tuple #[.int .i64 (col), .int .i64 (ext)]) ∧ ∃ z, w'' = w'.ext z)) (HP : Hid (Pad w B 10 vs)) (hvs : vs.length = 2) (h1 : 2 ≤ r1 ∧ r1 ≤ S + 1) (h2 : r2 ≤ 1) (hq : q1 < q2 ∨ q2 < q1) :
    Calls Tryd.prog 112 #[.agg #[.int .i64 (A), .int .i64 (S), .int .i64 (P), .int .i64 D, .int .i64 rr, .int .i64 cc, pk], .slice (some ⟨B, 0, none⟩) 1 5, .agg #[.int .i64 (r1), .int .i64 (q1)], .agg #[.int .i64 (r2), .int .i64 (q2)]] w (bendPost B vs [(r2, q1)] w) := by
  have d1 : ((r1 : Int) == (1)) = false := by simp; omega
  have d2 : ((r1 : Int) == ((S : Int) + 2)) = false := by simp; omega
  have d3 : ((r2 : Int) == (1)) = true := by simp; omega
  have d5 : ((q1 : Int) == (q2 : Int)) = false := by simp; omega
  go_enter Tryd.func112, Tryd.ntmps112
  go_wp2_with (first | (go_at_call 94; refine (backRow_any _ _ _ _ _ _ _ _ (by omega)).mono ?_; rintro e w' ⟨rfl, z, rfl⟩) | (go_at_call 96; refine (hX.out _).mono ?_; rintro e w' ⟨rfl, z2, rfl⟩) | (at_builtin; refine hold ?_))
  unfold Hid
  refine wp_pad rfl _ _ 64 rfl 63 (.agg #[.int .i64 (0), .int .i64 (0)]) 2 16 Tryd.underlying64 (by kernel_rfl) B 1 5 10 vs rfl (HP.out.below ?_) (by omega) _ 0 1 1 (prow [(r2, q1)]) rfl rfl ?_ (by simp [prow, Value.oneCell']) (by omega) (by omega) ?_
  · repeat (first | with_reducible exact Below.rf _ | with_reducible exact World.below_ext _ _ | with_reducible refine Below.ex ?_ _ | with_reducible refine Below.al ?_ _)
  · intro j u hj; simp [prow] at hj; simp [go_sem, ↓IntWalk.iteOmega]; simpa using hj
  intro w1 hp1 hk1 hs1
  go_wp2
  go_ret
  refine ⟨rfl, hp1, KeptBut.trans ?_ hk1⟩
  repeat (first | with_reducible exact KeptBut.refl _ _ | with_reducible refine KeptBut.ex ?_ _ | with_reducible refine KeptBut.al ?_ _)
set_option maxRecDepth 20000 in
set_option maxHeartbeats 4000000 in
theorem bends_IBn (A P S : Nat) (D rr cc : Int) (pk : Value) (r1 q1 r2 q2 col ext B : Nat) (vs : List Value) (w : World) (hS : S ≤ 12) (b1 : 1 ≤ r1 ∧ r1 ≤ S + 2) (b2 : 1 ≤ r2 ∧ r2 ≤ S + 2) (b4 : q1 ≤ 30 ∧ q2 ≤ 30) (b5 : col ≤ 30)
    (hX : Hid (∀ w', Calls Tryd.prog 96 #[.agg #[.int .i64 (A), .int .i64 (S), .int .i64 (P), .int .i64 D, .int .i64 rr, .int .i64 cc, pk], .int .i64 (q1), .int .i64 (q2)] w' fun e w'' => e = .returned (.tuple #[.int .i64 (col), .int .i64 (ext)]) ∧ ∃ z, w'' = w'.ext z)) (HP : Hid (Pad w B 10 vs)) (hvs : vs.length = 2) (h1 : 2 ≤ r1 ∧ r1 ≤ S + 1) (h2 : S + 2 ≤ r2) (hq : q1 < q2 ∨ q2 < q1) :
    Calls Tryd.prog 112 #[.agg #[.int .i64 (A), .int .i64 (S), .int .i64 (P), .int .i64 D, .int .i64 rr, .int .i64 cc, pk], .slice (some ⟨B, 0, none⟩) 1 5, .agg #[.int .i64 (r1), .int .i64 (q1)], .agg #[.int .i64 (r2), .int .i64 (q2)]] w (bendPost B vs [(r2, q1)] w) := by
  have d1 : ((r1 : Int) == (1)) = false := by simp; omega
  have d2 : ((r1 : Int) == ((S : Int) + 2)) = false := by simp; omega
  have d3 : ((r2 : Int) == (1)) = false := by simp; omega
  have d4 : ((r2 : Int) == ((S : Int) + 2)) = true := by simp; omega
  have d5 : ((q1 : Int) == (q2 : Int)) = false := by simp; omega
  go_enter Tryd.func112, Tryd.ntmps112
  go_wp2_with (first | (go_at_call 94; refine (backRow_any _ _ _ _ _ _ _ _ (by omega)).mono ?_; rintro e w' ⟨rfl, z, rfl⟩) | (go_at_call 96; refine (hX.out _).mono ?_; rintro e w' ⟨rfl, z2, rfl⟩) | (at_builtin; refine hold ?_))
  unfold Hid
  refine wp_pad rfl _ _ 64 rfl 63 (.agg #[.int .i64 (0), .int .i64 (0)]) 2 16 Tryd.underlying64 (by kernel_rfl) B 1 5 10 vs rfl (HP.out.below ?_) (by omega) _ 0 1 1 (prow [(r2, q1)]) rfl rfl ?_ (by simp [prow, Value.oneCell']) (by omega) (by omega) ?_
  · repeat (first | with_reducible exact Below.rf _ | with_reducible exact World.below_ext _ _ | with_reducible refine Below.ex ?_ _ | with_reducible refine Below.al ?_ _)
  · intro j u hj; simp [prow] at hj; simp [go_sem, ↓IntWalk.iteOmega]; simpa using hj
  intro w1 hp1 hk1 hs1
  go_wp2
  go_ret
  refine ⟨rfl, hp1, KeptBut.trans ?_ hk1⟩
  repeat (first | with_reducible exact KeptBut.refl _ _ | with_reducible refine KeptBut.ex ?_ _ | with_reducible refine KeptBut.al ?_ _)
set_option maxRecDepth 20000 in
set_option maxHeartbeats 4000000 in
theorem bends_IIb (A P S : Nat) (D rr cc : Int) (pk : Value) (r1 q1 r2 q2 col ext B : Nat) (vs : List Value) (w : World) (hS : S ≤ 12) (b1 : 1 ≤ r1 ∧ r1 ≤ S + 2) (b2 : 1 ≤ r2 ∧ r2 ≤ S + 2) (b4 : q1 ≤ 30 ∧ q2 ≤ 30) (b5 : col ≤ 30)
    (hX : Hid (∀ w', Calls Tryd.prog 96 #[.agg #[.int .i64 (A), .int .i64 (S), .int .i64 (P), .int .i64 D, .int .i64 rr, .int .i64 cc, pk], .int .i64 (q1), .int .i64 (q2)] w' fun e w'' => e = .returned (.tuple #[.int .i64 (col), .int .i64 (ext)]) ∧ ∃ z, w'' = w'.ext z)) (HP : Hid (Pad w B 10 vs)) (hvs : vs.length = 2) (h1 : 2 ≤ r1 ∧ r1 ≤ S + 1) (h2 : 2 ≤ r2 ∧ r2 ≤ S + 1) (hq : q1 < q2 ∨ q2 < q1) (ho : (S + 2 - r1) + (S + 2 - r2) < (r1 - 1) + (r2 - 1)) :
    Calls Tryd.prog 112 #[.agg #[.int .i64 (A), .int .i64 (S), .int .i64 (P), .int .i64 D, .int .i64 rr, .int .i64 cc, pk], .slice (some ⟨B, 0, none⟩) 1 5, .agg #[.int .i64 (r1), .int .i64 (q1)], .agg #[.int .i64 (r2), .int .i64 (q2)]] w (bendPost B vs [(S + 2, q1), (S + 2, q2)] w) := by
  have d1 : ((r1 : Int) == (1)) = false := by simp; omega
  have d2 : ((r1 : Int) == ((S : Int) + 2)) = false := by simp; omega
  have d3 : ((r2 : Int) == (1)) = false := by simp; omega
  have d4 : ((r2 : Int) == ((S : Int) + 2)) = false := by simp; omega
  have d5 : ((q1 : Int) == (q2 : Int)) = false := by simp; omega
  go_enter Tryd.func112, Tryd.ntmps112
  go_wp2_with (first | (go_at_call 94; refine (backRow_any _ _ _ _ _ _ _ _ (by omega)).mono ?_; rintro e w' ⟨rfl, z, rfl⟩) | (go_at_call 96; refine (hX.out _).mono ?_; rintro e w' ⟨rfl, z2, rfl⟩) | (at_builtin; refine hold ?_))
  unfold Hid
  refine wp_pad rfl _ _ 64 rfl 63 (.agg #[.int .i64 (0), .int .i64 (0)]) 2 16 Tryd.underlying64 (by kernel_rfl) B 1 5 10 vs rfl (HP.out.below ?_) (by omega) _ 0 2 2 (prow [(S + 2, q1), (S + 2, q2)]) rfl rfl ?_ (by simp [prow, Value.oneCell']) (by omega) (by omega) ?_
  · repeat (first | with_reducible exact Below.rf _ | with_reducible exact World.below_ext _ _ | with_reducible refine Below.ex ?_ _ | with_reducible refine Below.al ?_ _)
  · intro j u hj; simp [prow] at hj; simp [go_sem, ↓IntWalk.iteOmega]; simpa using hj
  intro w1 hp1 hk1 hs1
  go_wp2
  go_ret
  refine ⟨rfl, hp1, KeptBut.trans ?_ hk1⟩
  repeat (first | with_reducible exact KeptBut.refl _ _ | with_reducible refine KeptBut.ex ?_ _ | with_reducible refine KeptBut.al ?_ _)
set_option maxRecDepth 20000 in
set_option maxHeartbeats 4000000 in
theorem bends_IIf (A P S : Nat) (D rr cc : Int) (pk : Value) (r1 q1 r2 q2 col ext B : Nat) (vs : List Value) (w : World) (hS : S ≤ 12) (b1 : 1 ≤ r1 ∧ r1 ≤ S + 2) (b2 : 1 ≤ r2 ∧ r2 ≤ S + 2) (b4 : q1 ≤ 30 ∧ q2 ≤ 30) (b5 : col ≤ 30)
    (hX : Hid (∀ w', Calls Tryd.prog 96 #[.agg #[.int .i64 (A), .int .i64 (S), .int .i64 (P), .int .i64 D, .int .i64 rr, .int .i64 cc, pk], .int .i64 (q1), .int .i64 (q2)] w' fun e w'' => e = .returned (.tuple #[.int .i64 (col), .int .i64 (ext)]) ∧ ∃ z, w'' = w'.ext z)) (HP : Hid (Pad w B 10 vs)) (hvs : vs.length = 2) (h1 : 2 ≤ r1 ∧ r1 ≤ S + 1) (h2 : 2 ≤ r2 ∧ r2 ≤ S + 1) (hq : q1 < q2 ∨ q2 < q1) (ho : (r1 - 1) + (r2 - 1) ≤ (S + 2 - r1) + (S + 2 - r2)) :
    Calls Tryd.prog 112 #[.agg #[.int .i64 (A), .int .i64 (S), .int .i64 (P), .int .i64 D, .int .i64 rr, .int .i64 cc, pk], .slice (some ⟨B, 0, none⟩) 1 5, .agg #[.int .i64 (r1), .int .i64 (q1)], .agg #[.int .i64 (r2), .int .i64 (q2)]] w (bendPost B vs [(1, q1), (1, q2)] w) := by
  have d1 : ((r1 : Int) == (1)) = false := by simp; omega
  have d2 : ((r1 : Int) == ((S : Int) + 2)) = false := by simp; omega
  have d3 : ((r2 : Int) == (1)) = false := by simp; omega
  have d4 : ((r2 : Int) == ((S : Int) + 2)) = false := by simp; omega
  have d5 : ((q1 : Int) == (q2 : Int)) = false := by simp; omega
  go_enter Tryd.func112, Tryd.ntmps112
  go_wp2_with (first | (go_at_call 94; refine (backRow_any _ _ _ _ _ _ _ _ (by omega)).mono ?_; rintro e w' ⟨rfl, z, rfl⟩) | (go_at_call 96; refine (hX.out _).mono ?_; rintro e w' ⟨rfl, z2, rfl⟩) | (at_builtin; refine hold ?_))
  unfold Hid
  refine wp_pad rfl _ _ 64 rfl 63 (.agg #[.int .i64 (0), .int .i64 (0)]) 2 16 Tryd.underlying64 (by kernel_rfl) B 1 5 10 vs rfl (HP.out.below ?_) (by omega) _ 0 2 2 (prow [(1, q1), (1, q2)]) rfl rfl ?_ (by simp [prow, Value.oneCell']) (by omega) (by omega) ?_
  · repeat (first | with_reducible exact Below.rf _ | with_reducible exact World.below_ext _ _ | with_reducible refine Below.ex ?_ _ | with_reducible refine Below.al ?_ _)
  · intro j u hj; simp [prow] at hj; simp [go_sem, ↓IntWalk.iteOmega]; simpa using hj
  intro w1 hp1 hk1 hs1
  go_wp2
  go_ret
  refine ⟨rfl, hp1, KeptBut.trans ?_ hk1⟩
  repeat (first | with_reducible exact KeptBut.refl _ _ | with_reducible refine KeptBut.ex ?_ _ | with_reducible refine KeptBut.al ?_ _)
theorem bends_any (A P S : Nat) (D rr cc : Int) (pk : Value) (r1 q1 r2 q2 B : Nat) (vs : List Value) (w : World) (hA : 1 ≤ A ∧ A ≤ 8) (hP : 2 ≤ P ∧ P ≤ 3) (hS : 1 ≤ S ∧ S ≤ 12) (h1 : onA A P S r1 q1) (h2 : onA A P S r2 q2) (HP : Hid (Pad w B 10 vs)) (hvs : vs.length = 2) :
    Calls Tryd.prog 112 #[.agg #[.int .i64 (A), .int .i64 (S), .int .i64 (P), .int .i64 D, .int .i64 rr, .int .i64 cc, pk], .slice (some ⟨B, 0, none⟩) 1 5, .agg #[.int .i64 (r1), .int .i64 (q1)], .agg #[.int .i64 (r2), .int .i64 (q2)]] w (bendPost B vs (bnd A P S r1 q1 r2 q2) w) := by
  have hw : (A - 1) * P ≤ 21 := Nat.mul_le_mul (show A - 1 ≤ 7 by omega) hP.2
  have k1 := h1.1
  have k2 := h2.1
  have b1 : 1 ≤ r1 ∧ r1 ≤ S + 2 := by have := h1.2; omega
  have b2 : 1 ≤ r2 ∧ r2 ≤ S + 2 := by have := h2.2; omega
  have b4 : q1 ≤ 30 ∧ q2 ≤ 30 := by omega
  have hX : Hid (∀ w', Calls Tryd.prog 96 #[.agg #[.int .i64 (A), .int .i64 (S), .int .i64 (P), .int .i64 D, .int .i64 rr, .int .i64 cc, pk], .int .i64 (q1), .int .i64 (q2)] w' fun e w'' => e = .returned (.tuple #[.int .i64 (cCol A P (min q1 q2) (max q1 q2)), .int .i64 ((cX A P q1 q2 - nab q1 q2 : Nat))]) ∧ ∃ z, w'' = w'.ext z) := fun w' => crossing_any A P S D rr cc pk q1 q2 w' hA hP (by omega) (by omega)
  have b5 : cCol A P (min q1 q2) (max q1 q2) ≤ 30 := by
    have := isAc_lt (cCol_isA (A := A) (P := P) (lo := min q1 q2) (hi := max q1 q2) hA.1 (by omega))
    omega
  unfold bnd
  rcases (by omega : r1 ≤ 1 ∨ S + 2 ≤ r1 ∨ (2 ≤ r1 ∧ r1 ≤ S + 1)) with g1 | g1 | g1 <;> rcases (by omega : r2 ≤ 1 ∨ S + 2 ≤ r2 ∨ (2 ≤ r2 ∧ r2 ≤ S + 1)) with g2 | g2 | g2
  · rw [if_pos (by omega), if_pos (by omega)]
    exact bends_FF A P S D rr cc pk r1 q1 r2 q2 _ _ B vs w hS.2 b1 b2 b4 b5 hX HP hvs g1 g2
  · rw [if_pos (by omega), if_neg (by omega)]
    exact bends_FB A P S D rr cc pk r1 q1 r2 q2 _ _ B vs w hS.2 b1 b2 b4 b5 hX HP hvs g1 g2
  · rw [if_neg (by omega)]
    by_cases hq : q1 = q2
    · rw [if_pos hq]
      exact bends_FIe A P S D rr cc pk r1 q1 r2 q2 _ _ B vs w hS.2 b1 b2 b4 b5 hX HP hvs g1 g2 (by omega)
    · rw [if_neg hq, if_pos (by omega)]
      exact bends_FIn A P S D rr cc pk r1 q1 r2 q2 _ _ B vs w hS.2 b1 b2 b4 b5 hX HP hvs g1 g2 (by omega)
  · rw [if_pos (by omega), if_neg (by omega)]
    exact bends_BF A P S D rr cc pk r1 q1 r2 q2 _ _ B vs w hS.2 b1 b2 b4 b5 hX HP hvs g1 g2
  · rw [if_pos (by omega), if_pos (by omega)]
    exact bends_BB A P S D rr cc pk r1 q1 r2 q2 _ _ B vs w hS.2 b1 b2 b4 b5 hX HP hvs g1 g2
  · rw [if_neg (by omega)]
    by_cases hq : q1 = q2
    · rw [if_pos hq]
      exact bends_BIe A P S D rr cc pk r1 q1 r2 q2 _ _ B vs w hS.2 b1 b2 b4 b5 hX HP hvs g1 g2 (by omega)
    · rw [if_neg hq, if_pos (by omega)]
      exact bends_BIn A P S D rr cc pk r1 q1 r2 q2 _ _ B vs w hS.2 b1 b2 b4 b5 hX HP hvs g1 g2 (by omega)
  · rw [if_neg (by omega)]
    by_cases hq : q1 = q2
    · rw [if_pos hq]
      exact bends_IFe A P S D rr cc pk r1 q1 r2 q2 _ _ B vs w hS.2 b1 b2 b4 b5 hX HP hvs g1 g2 (by omega)
    · rw [if_neg hq, if_neg (by omega), if_pos (by omega)]
      exact bends_IFn A P S D rr cc pk r1 q1 r2 q2 _ _ B vs w hS.2 b1 b2 b4 b5 hX HP hvs g1 g2 (by omega)
  · rw [if_neg (by omega)]
    by_cases hq : q1 = q2
    · rw [if_pos hq]
      exact bends_IBe A P S D rr cc pk r1 q1 r2 q2 _ _ B vs w hS.2 b1 b2 b4 b5 hX HP hvs g1 g2 (by omega)
    · rw [if_neg hq, if_neg (by omega), if_pos (by omega)]
      exact bends_IBn A P S D rr cc pk r1 q1 r2 q2 _ _ B vs w hS.2 b1 b2 b4 b5 hX HP hvs g1 g2 (by omega)
  · rw [if_neg (by omega)]
    by_cases hq : q1 = q2
    · rw [if_pos hq]
      exact bends_IIe A P S D rr cc pk r1 q1 r2 q2 _ _ B vs w hS.2 b1 b2 b4 b5 hX HP hvs g1 g2 (by omega)
    · rw [if_neg hq, if_neg (by omega), if_neg (by omega)]
      by_cases ho : (S + 2 - r1) + (S + 2 - r2) < (r1 - 1) + (r2 - 1)
      · rw [if_pos ho]
        exact bends_IIb A P S D rr cc pk r1 q1 r2 q2 _ _ B vs w hS.2 b1 b2 b4 b5 hX HP hvs g1 g2 (by omega) ho
      · rw [if_neg ho]
        exact bends_IIf A P S D rr cc pk r1 q1 r2 q2 _ _ B vs w hS.2 b1 b2 b4 b5 hX HP hvs g1 g2 (by omega) (by omega)
end Go.Proofs.Qxb6500715aDoor
