/-
  toward: the walk.
-/
import Derived.Test.Qxb6500715aDoorRt
namespace Go.Proofs.Qxb6500715aDoor
open Go.RowKit
set_option linter.unusedSimpArgs false
set_option linter.unusedVariables false

theorem ret_agg {x y x' y' : Int} (h1 : x = x') (h2 : y = y') : Ending.returned (.agg #[.int .i64 (x), .int .i64 (y)]) = .returned (.agg #[.int .i64 (x'), .int .i64 (y')]) := by rw [h1, h2]


theorem toward_1 (r q r' q' : Nat) (w : World) (hr : r ≤ 1000000) (hq : q ≤ 1000000) (hr' : r' ≤ 1000000) (hq' : q' ≤ 1000000) (h : r < r') : Calls Tryd.prog 98 #[.agg #[.int .i64 (r), .int .i64 (q)], .agg #[.int .i64 (r'), .int .i64 (q')]] w fun e w' => e = .returned (.agg #[.int .i64 ((r : Int) + 1), .int .i64 (q)]) ∧ ∃ z, w' = w.ext z := by
  go_enter Tryd.func98, Tryd.ntmps98
  go_wp2
  refine bodyPost_ret (v := .agg #[.int .i64 ((r : Int) + 1), .int .i64 (q)]) (by simp [results, Tryd.results98, go_sem, ↓IntWalk.iteOmega]) rfl ⟨rfl, ?_⟩
  refine Below.is_ext ?_
  repeat (first | with_reducible exact Below.rf _ | with_reducible exact World.below_ext _ _ | with_reducible refine Below.ex ?_ _ | with_reducible refine Below.al ?_ _ | with_reducible refine Below.setCell ?_ (by simp) _ | with_reducible refine Below.drew ?_)
theorem toward_2 (r q r' q' : Nat) (w : World) (hr : r ≤ 1000000) (hq : q ≤ 1000000) (hr' : r' ≤ 1000000) (hq' : q' ≤ 1000000) (h : r' < r) : Calls Tryd.prog 98 #[.agg #[.int .i64 (r), .int .i64 (q)], .agg #[.int .i64 (r'), .int .i64 (q')]] w fun e w' => e = .returned (.agg #[.int .i64 ((r : Int) - 1), .int .i64 (q)]) ∧ ∃ z, w' = w.ext z := by
  go_enter Tryd.func98, Tryd.ntmps98
  go_wp2
  refine bodyPost_ret (v := .agg #[.int .i64 ((r : Int) - 1), .int .i64 (q)]) (by simp [results, Tryd.results98, go_sem, ↓IntWalk.iteOmega]) rfl ⟨rfl, ?_⟩
  refine Below.is_ext ?_
  repeat (first | with_reducible exact Below.rf _ | with_reducible exact World.below_ext _ _ | with_reducible refine Below.ex ?_ _ | with_reducible refine Below.al ?_ _ | with_reducible refine Below.setCell ?_ (by simp) _ | with_reducible refine Below.drew ?_)
theorem toward_3 (r q q' : Nat) (w : World) (hr : r ≤ 1000000) (hq : q ≤ 1000000) (hq' : q' ≤ 1000000) (h : q < q') : Calls Tryd.prog 98 #[.agg #[.int .i64 (r), .int .i64 (q)], .agg #[.int .i64 (r), .int .i64 (q')]] w fun e w' => e = .returned (.agg #[.int .i64 (r), .int .i64 ((q : Int) + 1)]) ∧ ∃ z, w' = w.ext z := by
  go_enter Tryd.func98, Tryd.ntmps98
  go_wp2
  refine bodyPost_ret (v := .agg #[.int .i64 (r), .int .i64 ((q : Int) + 1)]) (by simp [results, Tryd.results98, go_sem, ↓IntWalk.iteOmega]) rfl ⟨rfl, ?_⟩
  refine Below.is_ext ?_
  repeat (first | with_reducible exact Below.rf _ | with_reducible exact World.below_ext _ _ | with_reducible refine Below.ex ?_ _ | with_reducible refine Below.al ?_ _ | with_reducible refine Below.setCell ?_ (by simp) _ | with_reducible refine Below.drew ?_)
theorem toward_4 (r q q' : Nat) (w : World) (hr : r ≤ 1000000) (hq : q ≤ 1000000) (hq' : q' ≤ 1000000) (h : q' < q) : Calls Tryd.prog 98 #[.agg #[.int .i64 (r), .int .i64 (q)], .agg #[.int .i64 (r), .int .i64 (q')]] w fun e w' => e = .returned (.agg #[.int .i64 (r), .int .i64 ((q : Int) - 1)]) ∧ ∃ z, w' = w.ext z := by
  go_enter Tryd.func98, Tryd.ntmps98
  go_wp2
  refine bodyPost_ret (v := .agg #[.int .i64 (r), .int .i64 ((q : Int) - 1)]) (by simp [results, Tryd.results98, go_sem, ↓IntWalk.iteOmega]) rfl ⟨rfl, ?_⟩
  refine Below.is_ext ?_
  repeat (first | with_reducible exact Below.rf _ | with_reducible exact World.below_ext _ _ | with_reducible refine Below.ex ?_ _ | with_reducible refine Below.al ?_ _ | with_reducible refine Below.setCell ?_ (by simp) _ | with_reducible refine Below.drew ?_)

theorem toward_any (r q r' q' r2 q2 : Nat) (w : World) (hr : r ≤ 1000000) (hq : q ≤ 1000000) (hr' : r' ≤ 1000000) (hq' : q' ≤ 1000000) (hne : ¬ (r = r' ∧ q = q')) (ht : tow r q r' q' = (r2, q2)) :
    Calls Tryd.prog 98 #[.agg #[.int .i64 (r), .int .i64 (q)], .agg #[.int .i64 (r'), .int .i64 (q')]] w fun e w' => e = .returned (.agg #[.int .i64 (r2), .int .i64 (q2)]) ∧ ∃ z, w' = w.ext z := by
  unfold tow at ht
  by_cases h1 : r < r'
  · rw [if_pos h1] at ht
    simp only [Prod.mk.injEq] at ht
    refine (toward_1 r q r' q' w hr hq hr' hq' h1).mono ?_
    rintro e w' ⟨rfl, h⟩
    exact ⟨ret_agg (by omega) (by omega), h⟩
  · by_cases h2 : r' < r
    · rw [if_neg h1, if_pos h2] at ht
      simp only [Prod.mk.injEq] at ht
      refine (toward_2 r q r' q' w hr hq hr' hq' h2).mono ?_
      rintro e w' ⟨rfl, h⟩
      exact ⟨ret_agg (by omega) (by omega), h⟩
    · obtain rfl : r = r' := by omega
      by_cases h3 : q < q'
      · rw [if_neg h1, if_neg h2, if_pos h3] at ht
        simp only [Prod.mk.injEq] at ht
        refine (toward_3 r q q' w hr hq hq' h3).mono ?_
        rintro e w' ⟨rfl, h⟩
        exact ⟨ret_agg (by omega) (by omega), h⟩
      · have h4 : q' < q := by omega
        rw [if_neg h1, if_neg h2, if_neg h3, if_pos h4] at ht
        simp only [Prod.mk.injEq] at ht
        refine (toward_4 r q q' w hr hq hq' h4).mono ?_
        rintro e w' ⟨rfl, h⟩
        exact ⟨ret_agg (by omega) (by omega), h⟩
end Go.Proofs.Qxb6500715aDoor
