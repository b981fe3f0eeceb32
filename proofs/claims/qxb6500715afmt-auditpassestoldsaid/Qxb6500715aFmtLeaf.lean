/-
  The small functions of package floor: what each returns; none writes to memory that was there.
-/
import Derived.Test.Qxb6500715aFmtProg
import Derived.Test.Qxb6500715aFmtBase
namespace Go.Proofs.Qxb6500715aFmt
open Go.RowKit

theorem refuse_any (c n : Int) (w : World) :
    Calls Tryf.prog 65 #[.int .u8 c, .int .i64 (n)] w fun e w' => e = .returned (.agg #[.int .u8 c, .int .i64 (n)]) ∧ ∃ z, w' = w.ext z := by
  go_enter Tryf.func65, Tryf.ntmps65
  go_wp2
  exact bodyPost_ret (v := .agg #[.int .u8 c, .int .i64 (n)]) (by simp [results, Tryf.results65, go_sem]) rfl ⟨rfl, ((Below.rf _).al _).is_ext⟩

/-- A number of robots within the limits. -/
def robotsOk (n : Int) : Bool := decide (1 ≤ n ∧ n ≤ 6)

theorem robots_any (n : Int) (w : World) :
    Calls Tryf.prog 66 #[.int .i64 (n)] w fun e w' => e = .returned (.bool (robotsOk n)) ∧ ∃ z, w' = w.ext z := by
  by_cases h : 1 ≤ n
  · go_enter Tryf.func66, Tryf.ntmps66
    go_wp2
    go_ret
    exact ⟨ret_bool (by simp [robotsOk, h]), (Below.rf _).is_ext⟩
  · go_enter Tryf.func66, Tryf.ntmps66
    go_wp2
    go_ret
    exact ⟨ret_bool (by simp [robotsOk]; omega), (Below.rf _).is_ext⟩

theorem encodedLen_any (n : Int) (w : World) (h : 0 ≤ n ∧ n ≤ 1000000) :
    Calls Tryf.prog 67 #[.int .i64 (n)] w fun e w' => e = .returned (.int .i64 (10 + 2 * n)) ∧ ∃ z, w' = w.ext z := by
  go_enter Tryf.func67, Tryf.ntmps67
  go_wp2
  go_ret
  exact ⟨ret_int (by omega), (Below.rf _).is_ext⟩

theorem bayOffset_any (n : Int) (w : World) (h : 0 ≤ n ∧ n ≤ 1000000) :
    Calls Tryf.prog 45 #[.int .i64 (n)] w fun e w' => e = .returned (.int .i64 (9 + 2 * n)) ∧ ∃ z, w' = w.ext z := by
  go_enter Tryf.func45, Tryf.ntmps45
  go_wp2
  go_ret
  exact ⟨rfl, (Below.rf _).is_ext⟩

theorem accepted_any (c n : Int) (w : World) :
    Calls Tryf.prog 8 #[.agg #[.int .u8 c, .int .i64 (n)]] w fun e w' => e = .returned (.bool (c == 0)) ∧ ∃ z, w' = w.ext z := by
  go_enter Tryf.func8, Tryf.ntmps8
  go_wp2
  go_ret
  exact ⟨rfl, ((Below.rf _).al _).is_ext⟩

theorem width_any (A S P D r c : Int) (pk : Value) (w : World) (hA : -1000000 ≤ A ∧ A ≤ 1000000) (hp : -1000000 ≤ (A - 1) * P ∧ (A - 1) * P ≤ 1000000) :
    Calls Tryf.prog 48 #[.agg #[.int .i64 A, .int .i64 S, .int .i64 P, .int .i64 D, .int .i64 r, .int .i64 c, pk]] w fun e w' => e = .returned (.int .i64 (((A - 1) * P + 3))) ∧ ∃ z, w' = w.ext z := by
  go_enter Tryf.func48, Tryf.ntmps48
  go_wp2
  go_ret
  exact ⟨ret_int (by omega), ((Below.rf _).al _).is_ext⟩

theorem height_any (A S P D r c : Int) (pk : Value) (w : World) (hS : -1000000 ≤ S ∧ S ≤ 1000000) :
    Calls Tryf.prog 49 #[.agg #[.int .i64 A, .int .i64 S, .int .i64 P, .int .i64 D, .int .i64 r, .int .i64 c, pk]] w fun e w' => e = .returned (.int .i64 (S + 4)) ∧ ∃ z, w' = w.ext z := by
  go_enter Tryf.func49, Tryf.ntmps49
  go_wp2
  go_ret
  exact ⟨rfl, ((Below.rf _).al _).is_ext⟩

theorem backRow_any (A S P D r c : Int) (pk : Value) (w : World) (hS : -1000000 ≤ S ∧ S ≤ 1000000) :
    Calls Tryf.prog 71 #[.agg #[.int .i64 A, .int .i64 S, .int .i64 P, .int .i64 D, .int .i64 r, .int .i64 c, pk]] w fun e w' => e = .returned (.int .i64 (S + 2)) ∧ ∃ z, w' = w.ext z := by
  go_enter Tryf.func71, Tryf.ntmps71
  go_wp2
  go_ret
  exact ⟨ret_int (by omega), ((Below.rf _).al _).is_ext⟩

theorem backApronRow_any (A S P D r c : Int) (pk : Value) (w : World) (hS : -1000000 ≤ S ∧ S ≤ 1000000) :
    Calls Tryf.prog 80 #[.agg #[.int .i64 A, .int .i64 S, .int .i64 P, .int .i64 D, .int .i64 r, .int .i64 c, pk]] w fun e w' => e = .returned (.int .i64 (S + 3)) ∧ ∃ z, w' = w.ext z := by
  go_enter Tryf.func80, Tryf.ntmps80
  go_wp2_with (go_at_call 71; refine (backRow_any _ _ _ _ _ _ _ _ hS).mono ?_; rintro e w' ⟨rfl, z, rfl⟩)
  go_ret
  exact ⟨ret_int (by omega), (((Below.rf _).al _).ex _).is_ext⟩

theorem aisleCol_any (A S P D r c : Int) (pk : Value) (a : Int) (w : World) (hp : -1000000 ≤ a * P ∧ a * P ≤ 1000000) :
    Calls Tryf.prog 61 #[.agg #[.int .i64 A, .int .i64 S, .int .i64 P, .int .i64 D, .int .i64 r, .int .i64 c, pk], .int .i64 (a)] w fun e w' => e = .returned (.int .i64 (1 + a * P)) ∧ ∃ z, w' = w.ext z := by
  go_enter Tryf.func61, Tryf.ntmps61
  go_wp2
  go_ret
  exact ⟨rfl, ((Below.rf _).al _).is_ext⟩

/-- p lies on the grid. -/
def inGrid (A S P x y : Int) : Bool := decide (0 ≤ x ∧ x < S + 4 ∧ 0 ≤ y ∧ y < (A - 1) * P + 3)

set_option maxHeartbeats 1000000 in
theorem inGrid_any (A S P D r c : Int) (pk : Value) (x y : Int) (w : World) (hA : -1000000 ≤ A ∧ A ≤ 1000000) (hS : -1000000 ≤ S ∧ S ≤ 1000000) (hp : -1000000 ≤ (A - 1) * P ∧ (A - 1) * P ≤ 1000000) :
    Calls Tryf.prog 62 #[.agg #[.int .i64 A, .int .i64 S, .int .i64 P, .int .i64 D, .int .i64 r, .int .i64 c, pk], .agg #[.int .i64 (x), .int .i64 (y)]] w fun e w' => e = .returned (.bool (inGrid A S P x y)) ∧ ∃ z, w' = w.ext z := by
  rcases Bool.eq_false_or_eq_true (decide (0 ≤ x)) with h1 | h1
  · rcases Bool.eq_false_or_eq_true (decide (x < S + 4)) with h2 | h2
    · rcases Bool.eq_false_or_eq_true (decide (0 ≤ y)) with h3 | h3
      · go_enter Tryf.func62, Tryf.ntmps62
        go_wp2
        first | with_reducible refine wp_region_ext2 (by kernel_rfl) (by kernel_rfl) ?_ | refine wp_region_ext (by kernel_rfl) (by kernel_rfl) ?_
        repeat (go_big_quiet_step (first | (go_at_call 49; exact Calls.ext_of (height_any _ _ _ _ _ _ _ _ (by omega))) | (go_at_call 48; exact Calls.ext_of (width_any _ _ _ _ _ _ _ _ (by omega) (by omega)))))
        refine wpQuiet_nil ?_
        rintro _ ⟨z, rfl⟩
        go_wp2
        go_ret
        exact ⟨ret_bool (by simp only [inGrid]; simp at h1 h2 h3; simp [h1, h2, h3]), ((((Below.rf _).al _).al _).ex _).is_ext⟩
      · go_enter Tryf.func62, Tryf.ntmps62
        go_wp2
        first | with_reducible refine wp_region_ext2 (by kernel_rfl) (by kernel_rfl) ?_ | refine wp_region_ext (by kernel_rfl) (by kernel_rfl) ?_
        repeat (go_big_quiet_step (first | (go_at_call 49; exact Calls.ext_of (height_any _ _ _ _ _ _ _ _ (by omega))) | (go_at_call 48; exact Calls.ext_of (width_any _ _ _ _ _ _ _ _ (by omega) (by omega)))))
        refine wpQuiet_nil ?_
        rintro _ ⟨z, rfl⟩
        go_wp2
        go_ret
        exact ⟨ret_bool (by simp only [inGrid]; simp at h1 h2 h3; simp; omega), ((((Below.rf _).al _).al _).ex _).is_ext⟩
    · go_enter Tryf.func62, Tryf.ntmps62
      go_wp2
      first | with_reducible refine wp_region_ext2 (by kernel_rfl) (by kernel_rfl) ?_ | refine wp_region_ext (by kernel_rfl) (by kernel_rfl) ?_
      repeat (go_big_quiet_step (first | (go_at_call 49; exact Calls.ext_of (height_any _ _ _ _ _ _ _ _ (by omega))) | (go_at_call 48; exact Calls.ext_of (width_any _ _ _ _ _ _ _ _ (by omega) (by omega)))))
      refine wpQuiet_nil ?_
      rintro _ ⟨z, rfl⟩
      go_wp2
      go_ret
      exact ⟨ret_bool (by simp only [inGrid]; simp at h1 h2; simp; omega), ((((Below.rf _).al _).al _).ex _).is_ext⟩
  · go_enter Tryf.func62, Tryf.ntmps62
    go_wp2
    first | with_reducible refine wp_region_ext2 (by kernel_rfl) (by kernel_rfl) ?_ | refine wp_region_ext (by kernel_rfl) (by kernel_rfl) ?_
    repeat (go_big_quiet_step (first | (go_at_call 49; exact Calls.ext_of (height_any _ _ _ _ _ _ _ _ (by omega))) | (go_at_call 48; exact Calls.ext_of (width_any _ _ _ _ _ _ _ _ (by omega) (by omega)))))
    refine wpQuiet_nil ?_
    rintro _ ⟨z, rfl⟩
    go_wp2
    go_ret
    exact ⟨ret_bool (by simp only [inGrid]; simp at h1; simp; omega), ((((Below.rf _).al _).al _).ex _).is_ext⟩

/-- p lies on an apron. -/
def onApron (A S P x y : Int) : Bool := inGrid A S P x y && (x == 0 || x == S + 3)

set_option maxHeartbeats 1000000 in
theorem onApron_any (A S P D r c : Int) (pk : Value) (x y : Int) (w : World) (hA : -1000000 ≤ A ∧ A ≤ 1000000) (hS : -1000000 ≤ S ∧ S ≤ 1000000) (hp : -1000000 ≤ (A - 1) * P ∧ (A - 1) * P ≤ 1000000) :
    Calls Tryf.prog 79 #[.agg #[.int .i64 A, .int .i64 S, .int .i64 P, .int .i64 D, .int .i64 r, .int .i64 c, pk], .agg #[.int .i64 (x), .int .i64 (y)]] w fun e w' => e = .returned (.bool (onApron A S P x y)) ∧ ∃ z, w' = w.ext z := by
  rcases Bool.eq_false_or_eq_true (inGrid A S P x y) with h1 | h1
  · rcases Bool.eq_false_or_eq_true (x == 0) with h2 | h2
    · go_enter Tryf.func79, Tryf.ntmps79
      go_wp2
      first | with_reducible refine wp_region_ext2 (by kernel_rfl) (by kernel_rfl) ?_ | refine wp_region_ext (by kernel_rfl) (by kernel_rfl) ?_
      repeat (go_big_quiet_step (first | (go_at_call 62; exact Calls.ext_of (Calls.tf (inGrid_any _ _ _ _ _ _ _ _ _ _ hA hS hp) h1)) | (go_at_call 80; exact Calls.ext_of (backApronRow_any _ _ _ _ _ _ _ _ hS))))
      refine wpQuiet_nil ?_
      rintro _ ⟨z, rfl⟩
      go_wp2
      go_ret
      exact ⟨ret_bool (by simp [onApron, h1, h2]), ((((Below.rf _).al _).al _).ex _).is_ext⟩
    · go_enter Tryf.func79, Tryf.ntmps79
      go_wp2
      first | with_reducible refine wp_region_ext2 (by kernel_rfl) (by kernel_rfl) ?_ | refine wp_region_ext (by kernel_rfl) (by kernel_rfl) ?_
      repeat (go_big_quiet_step (first | (go_at_call 62; exact Calls.ext_of (Calls.tf (inGrid_any _ _ _ _ _ _ _ _ _ _ hA hS hp) h1)) | (go_at_call 80; exact Calls.ext_of (backApronRow_any _ _ _ _ _ _ _ _ hS))))
      refine wpQuiet_nil ?_
      rintro _ ⟨z, rfl⟩
      go_wp2
      go_ret
      exact ⟨ret_bool (by simp [onApron, h1, h2]), ((((Below.rf _).al _).al _).ex _).is_ext⟩
  · go_enter Tryf.func79, Tryf.ntmps79
    go_wp2
    first | with_reducible refine wp_region_ext2 (by kernel_rfl) (by kernel_rfl) ?_ | refine wp_region_ext (by kernel_rfl) (by kernel_rfl) ?_
    repeat (go_big_quiet_step (first | (go_at_call 62; exact Calls.ext_of (Calls.tf (inGrid_any _ _ _ _ _ _ _ _ _ _ hA hS hp) h1)) | (go_at_call 80; exact Calls.ext_of (backApronRow_any _ _ _ _ _ _ _ _ hS))))
    refine wpQuiet_nil ?_
    rintro _ ⟨z, rfl⟩
    go_wp2
    go_ret
    exact ⟨ret_bool (by simp [onApron, h1]), ((((Below.rf _).al _).al _).ex _).is_ext⟩

end Go.Proofs.Qxb6500715aFmt
