/-
  crossing and aisleDist: the walks.
-/
import Derived.Test.Qxb6500715aFmtFar3
namespace Go.Proofs.Qxb6500715aFmt
open Go.RowKit
set_option linter.unusedSimpArgs false
set_option linter.unusedVariables false

theorem abs_any (x : Int) (w : World) (hx : -1000000 ≤ x ∧ x ≤ 1000000) : Calls Tryf.prog 24 #[.int .i64 (x)] w fun e w' => e = .returned (.int .i64 (if x < 0 then -x else x)) ∧ w' = w := by
  by_cases h : x < 0
  · rw [if_pos h]
    have hd : decide (x < 0) = true := decide_eq_true h
    go_enter Tryf.func24, Tryf.ntmps24
    go_wp2
    go_ret
    exact ⟨rfl, rfl⟩
  · rw [if_neg h]
    have hd : decide (x < 0) = false := decide_eq_false h
    go_enter Tryf.func24, Tryf.ntmps24
    go_wp2
    go_ret
    exact ⟨rfl, rfl⟩
theorem abs_nab (p q : Nat) (w : World) (hp : p ≤ 100000) (hq : q ≤ 100000) : Calls Tryf.prog 24 #[.int .i64 ((p : Int) - q)] w fun e w' => e = .returned (.int .i64 (nab p q)) ∧ w' = w := by
  have h := abs_any ((p : Int) - q) w (by omega)
  have e : (if (p : Int) - q < 0 then -((p : Int) - q) else (p : Int) - q) = (nab p q : Nat) := by unfold nab; split <;> omega
  rw [e] at h; exact h

theorem nab_lohi (c1 c2 col : Nat) : nab c1 col + nab c2 col - nab c1 c2 = nab (min c1 c2) col + nab (max c1 c2) col - (max c1 c2 - min c1 c2) := by
  rcases Nat.le_total c1 c2 with h | h
  · rw [Nat.min_eq_left h, Nat.max_eq_right h]; congr 1; unfold nab; omega
  · rw [Nat.min_eq_right h, Nat.max_eq_left h]; rw [Nat.add_comm]; congr 1; unfold nab; omega
theorem ext_mid {lo hi col : Nat} (h1 : lo ≤ col) (h2 : col ≤ hi) : nab lo col + nab hi col - (hi - lo) = 0 := by unfold nab; omega
theorem ext_left {lo hi col : Nat} (h1 : col ≤ lo) (h2 : lo ≤ hi) : nab lo col + nab hi col - (hi - lo) = 2 * (lo - col) := by unfold nab; omega
theorem ext_right {lo hi col : Nat} (h1 : hi ≤ col) (h2 : lo ≤ hi) : nab lo col + nab hi col - (hi - lo) = 2 * (col - hi) := by unfold nab; omega

theorem ret_pair {a b c d : Int} (h1 : a = c) (h2 : b = d) : Ending.returned (.tuple #[.int .i64 a, .int .i64 b]) = .returned (.tuple #[.int .i64 c, .int .i64 d]) := by rw [h1, h2]

set_option maxRecDepth 20000 in
set_option maxHeartbeats 4000000 in
theorem crossing_lt (A P : Nat) (S D rr cc : Int) (pk : Value) (c1 c2 col r x : Nat) (w : World) (hA : 1 ≤ A ∧ A ≤ 8) (hP : 2 ≤ P ∧ P ≤ 3) (h1 : c1 ≤ 30) (h2 : c2 ≤ 30) (hc : c1 < c2) (hx : x = r * P) (s1 : x ≤ c1 + P - 2) (s2 : c1 ≤ x + 1)
    (hdiv : ((c1 : Int) - 1 + P - 1).tdiv P = r)
    (hcol : col = (if r < A ∧ 1 + x ≤ c2 then 1 + x else if r = 0 then 1 + x else if A ≤ r then 1 + (x - P) else if c1 - (1 + (x - P)) ≤ (1 + x) - c2 then 1 + (x - P) else 1 + x)) :
    Calls Tryf.prog 78 #[.agg #[.int .i64 (A), .int .i64 S, .int .i64 (P), .int .i64 D, .int .i64 rr, .int .i64 cc, pk], .int .i64 (c1), .int .i64 (c2)] w fun e w' => e = .returned (.tuple #[.int .i64 (col), .int .i64 ((nab c1 col + nab c2 col - (c2 - c1) : Nat))]) ∧ ∃ z, w' = w.ext z := by
  have hP0 : ¬ (P : Int) = 0 := by omega
  have hr30 : x ≤ 40 := by omega
  have hrb : r ≤ 40 := by
    by_cases h : r ≤ 40
    · exact h
    · have := Nat.mul_le_mul (show 41 ≤ r by omega) hP.1; omega
  have cAt : ∀ (a x : Nat) (w' : World), x = a * P → x ≤ 100 → Calls Tryf.prog 61 #[.agg #[.int .i64 (A), .int .i64 S, .int .i64 (P), .int .i64 D, .int .i64 rr, .int .i64 cc, pk], .int .i64 (a)] w' fun e w'' => e = .returned (.int .i64 (((1 + x : Nat) : Int))) ∧ ∃ z, w'' = w'.ext z := fun a x w' hx hb => by
    have e : (a : Int) * P = (x : Int) := by rw [hx]; simp
    have h := aisleCol_any A S P D rr cc pk a w' (by rw [e]; omega)
    rw [e] at h
    simpa using h
  have hmul : (r - 1) * P = r * P - P := by rw [Nat.sub_mul, Nat.one_mul]
  have cRa := fun w' => cAt r x w' hx (by omega)
  have hx0 : r = 0 → x = 0 := fun h => by rw [hx, h, Nat.zero_mul]
  have hx1 : 1 ≤ r → P ≤ x := fun h => by
    have := Nat.mul_le_mul_right P h
    rwa [Nat.one_mul, ← hx] at this
  have cLa : ∀ w', 1 ≤ r → Calls Tryf.prog 61 #[.agg #[.int .i64 (A), .int .i64 S, .int .i64 (P), .int .i64 D, .int .i64 rr, .int .i64 cc, pk], .int .i64 ((r : Int) - 1)] w' fun e w'' => e = .returned (.int .i64 (((1 + (x - P) : Nat) : Int))) ∧ ∃ z, w'' = w'.ext z := fun w' h => by
    have := cAt (r - 1) (x - P) w' (by rw [hmul, hx]) (by omega)
    rwa [show ((r - 1 : Nat) : Int) = (r : Int) - 1 by omega] at this
  have cRb := hid cRa
  have cLb := hid cLa
  clear hmul hx cAt cRa cLa
  by_cases t1 : r < A
  · by_cases t2 : 1 + x ≤ c2
    · rw [if_pos ⟨t1, t2⟩] at hcol
      rw [ext_mid (by omega) (by omega)]
      subst hcol
      clear hx0 hx1
      go_enter Tryf.func78, Tryf.ntmps78
      go_wp2_with (go_at_call 61; refine (cRb.out _).mono ?_; rintro e w' ⟨rfl, z, rfl⟩)
      go_ret2
      refine ⟨ret_pair (by omega) (by omega), ?_⟩
      refine Below.is_ext ?_
      repeat (first | with_reducible exact Below.rf _ | with_reducible exact World.below_ext _ _ | with_reducible refine Below.ex ?_ _ | with_reducible refine Below.al ?_ _ | with_reducible refine Below.setCell ?_ (by simp) _ | with_reducible refine Below.drew ?_)
    · rw [if_neg (fun h => t2 h.2)] at hcol
      by_cases t3 : r = 0
      · exfalso; have := hx0 t3; omega
      · rw [if_neg t3, if_neg (by omega)] at hcol
        have hPx := hx1 (by omega)
        clear hx0 hx1
        by_cases t4 : c1 - (1 + (x - P)) ≤ (1 + x) - c2
        · rw [if_pos t4] at hcol
          rw [ext_left (by omega) (Nat.le_of_lt hc)]
          subst hcol
          go_enter Tryf.func78, Tryf.ntmps78
          go_wp2_with (go_at_call 61; refine (cRb.out _).mono ?_; rintro e w' ⟨rfl, z, rfl⟩)
          first | with_reducible refine wp_region_ext2 (by kernel_rfl) (by kernel_rfl) ?_ | refine wp_region_ext (by kernel_rfl) (by kernel_rfl) ?_
          repeat (go_big_quiet_step ((go_at_call 61; first | with_reducible exact Calls.ext_of (cRb.out _) | with_reducible exact Calls.ext_of (cLb.out _ (by omega)))))
          refine wpQuiet_nil ?_
          rintro _ ⟨z, rfl⟩
          go_wp2_with (go_at_call 61; refine (cLb.out _ (by omega)).mono ?_; rintro e w' ⟨rfl, z3, rfl⟩)
          go_ret2
          refine ⟨ret_pair (by omega) (by omega), ?_⟩
          refine Below.is_ext ?_
          repeat (first | with_reducible exact Below.rf _ | with_reducible exact World.below_ext _ _ | with_reducible refine Below.ex ?_ _ | with_reducible refine Below.al ?_ _ | with_reducible refine Below.setCell ?_ (by simp) _ | with_reducible refine Below.drew ?_)
        · exfalso; omega
  · rw [if_neg (fun h => t1 h.1), if_neg (by omega), if_pos (by omega)] at hcol
    have hPx := hx1 (by omega)
    clear hx0 hx1
    rw [ext_left (by omega) (Nat.le_of_lt hc)]
    subst hcol
    go_enter Tryf.func78, Tryf.ntmps78
    go_wp2_with fail
    first | with_reducible refine wp_region_ext2 (by kernel_rfl) (by kernel_rfl) ?_ | refine wp_region_ext (by kernel_rfl) (by kernel_rfl) ?_
    repeat (go_big_quiet_step ((go_at_call 61; exact Calls.ext_of (cLb.out _ (by omega)))))
    refine wpQuiet_nil ?_
    rintro _ ⟨z, rfl⟩
    go_wp2
    go_ret2
    refine ⟨ret_pair (by omega) (by omega), ?_⟩
    refine Below.is_ext ?_
    repeat (first | with_reducible exact Below.rf _ | with_reducible exact World.below_ext _ _ | with_reducible refine Below.ex ?_ _ | with_reducible refine Below.al ?_ _ | with_reducible refine Below.setCell ?_ (by simp) _ | with_reducible refine Below.drew ?_)
set_option maxRecDepth 20000 in
set_option maxHeartbeats 4000000 in
theorem crossing_gt (A P : Nat) (S D rr cc : Int) (pk : Value) (c1 c2 col r x : Nat) (w : World) (hA : 1 ≤ A ∧ A ≤ 8) (hP : 2 ≤ P ∧ P ≤ 3) (h1 : c1 ≤ 30) (h2 : c2 ≤ 30) (hc : c2 < c1) (hx : x = r * P) (s1 : x ≤ c2 + P - 2) (s2 : c2 ≤ x + 1)
    (hdiv : ((c2 : Int) - 1 + P - 1).tdiv P = r)
    (hcol : col = (if r < A ∧ 1 + x ≤ c1 then 1 + x else if r = 0 then 1 + x else if A ≤ r then 1 + (x - P) else if c2 - (1 + (x - P)) ≤ (1 + x) - c1 then 1 + (x - P) else 1 + x)) :
    Calls Tryf.prog 78 #[.agg #[.int .i64 (A), .int .i64 S, .int .i64 (P), .int .i64 D, .int .i64 rr, .int .i64 cc, pk], .int .i64 (c1), .int .i64 (c2)] w fun e w' => e = .returned (.tuple #[.int .i64 (col), .int .i64 ((nab c2 col + nab c1 col - (c1 - c2) : Nat))]) ∧ ∃ z, w' = w.ext z := by
  have hP0 : ¬ (P : Int) = 0 := by omega
  have hr30 : x ≤ 40 := by omega
  have hrb : r ≤ 40 := by
    by_cases h : r ≤ 40
    · exact h
    · have := Nat.mul_le_mul (show 41 ≤ r by omega) hP.1; omega
  have cAt : ∀ (a x : Nat) (w' : World), x = a * P → x ≤ 100 → Calls Tryf.prog 61 #[.agg #[.int .i64 (A), .int .i64 S, .int .i64 (P), .int .i64 D, .int .i64 rr, .int .i64 cc, pk], .int .i64 (a)] w' fun e w'' => e = .returned (.int .i64 (((1 + x : Nat) : Int))) ∧ ∃ z, w'' = w'.ext z := fun a x w' hx hb => by
    have e : (a : Int) * P = (x : Int) := by rw [hx]; simp
    have h := aisleCol_any A S P D rr cc pk a w' (by rw [e]; omega)
    rw [e] at h
    simpa using h
  have hmul : (r - 1) * P = r * P - P := by rw [Nat.sub_mul, Nat.one_mul]
  have cRa := fun w' => cAt r x w' hx (by omega)
  have hx0 : r = 0 → x = 0 := fun h => by rw [hx, h, Nat.zero_mul]
  have hx1 : 1 ≤ r → P ≤ x := fun h => by
    have := Nat.mul_le_mul_right P h
    rwa [Nat.one_mul, ← hx] at this
  have cLa : ∀ w', 1 ≤ r → Calls Tryf.prog 61 #[.agg #[.int .i64 (A), .int .i64 S, .int .i64 (P), .int .i64 D, .int .i64 rr, .int .i64 cc, pk], .int .i64 ((r : Int) - 1)] w' fun e w'' => e = .returned (.int .i64 (((1 + (x - P) : Nat) : Int))) ∧ ∃ z, w'' = w'.ext z := fun w' h => by
    have := cAt (r - 1) (x - P) w' (by rw [hmul, hx]) (by omega)
    rwa [show ((r - 1 : Nat) : Int) = (r : Int) - 1 by omega] at this
  have cRb := hid cRa
  have cLb := hid cLa
  clear hmul hx cAt cRa cLa
  by_cases t1 : r < A
  · by_cases t2 : 1 + x ≤ c1
    · rw [if_pos ⟨t1, t2⟩] at hcol
      rw [ext_mid (by omega) (by omega)]
      subst hcol
      clear hx0 hx1
      go_enter Tryf.func78, Tryf.ntmps78
      go_wp2_with (go_at_call 61; refine (cRb.out _).mono ?_; rintro e w' ⟨rfl, z, rfl⟩)
      go_ret2
      refine ⟨ret_pair (by omega) (by omega), ?_⟩
      refine Below.is_ext ?_
      repeat (first | with_reducible exact Below.rf _ | with_reducible exact World.below_ext _ _ | with_reducible refine Below.ex ?_ _ | with_reducible refine Below.al ?_ _ | with_reducible refine Below.setCell ?_ (by simp) _ | with_reducible refine Below.drew ?_)
    · rw [if_neg (fun h => t2 h.2)] at hcol
      by_cases t3 : r = 0
      · exfalso; have := hx0 t3; omega
      · rw [if_neg t3, if_neg (by omega)] at hcol
        have hPx := hx1 (by omega)
        clear hx0 hx1
        by_cases t4 : c2 - (1 + (x - P)) ≤ (1 + x) - c1
        · rw [if_pos t4] at hcol
          rw [ext_left (by omega) (Nat.le_of_lt hc)]
          subst hcol
          go_enter Tryf.func78, Tryf.ntmps78
          go_wp2_with (go_at_call 61; refine (cRb.out _).mono ?_; rintro e w' ⟨rfl, z, rfl⟩)
          first | with_reducible refine wp_region_ext2 (by kernel_rfl) (by kernel_rfl) ?_ | refine wp_region_ext (by kernel_rfl) (by kernel_rfl) ?_
          repeat (go_big_quiet_step ((go_at_call 61; first | with_reducible exact Calls.ext_of (cRb.out _) | with_reducible exact Calls.ext_of (cLb.out _ (by omega)))))
          refine wpQuiet_nil ?_
          rintro _ ⟨z, rfl⟩
          go_wp2_with (go_at_call 61; refine (cLb.out _ (by omega)).mono ?_; rintro e w' ⟨rfl, z3, rfl⟩)
          go_ret2
          refine ⟨ret_pair (by omega) (by omega), ?_⟩
          refine Below.is_ext ?_
          repeat (first | with_reducible exact Below.rf _ | with_reducible exact World.below_ext _ _ | with_reducible refine Below.ex ?_ _ | with_reducible refine Below.al ?_ _ | with_reducible refine Below.setCell ?_ (by simp) _ | with_reducible refine Below.drew ?_)
        · exfalso; omega
  · rw [if_neg (fun h => t1 h.1), if_neg (by omega), if_pos (by omega)] at hcol
    have hPx := hx1 (by omega)
    clear hx0 hx1
    rw [ext_left (by omega) (Nat.le_of_lt hc)]
    subst hcol
    go_enter Tryf.func78, Tryf.ntmps78
    go_wp2_with fail
    first | with_reducible refine wp_region_ext2 (by kernel_rfl) (by kernel_rfl) ?_ | refine wp_region_ext (by kernel_rfl) (by kernel_rfl) ?_
    repeat (go_big_quiet_step ((go_at_call 61; exact Calls.ext_of (cLb.out _ (by omega)))))
    refine wpQuiet_nil ?_
    rintro _ ⟨z, rfl⟩
    go_wp2
    go_ret2
    refine ⟨ret_pair (by omega) (by omega), ?_⟩
    refine Below.is_ext ?_
    repeat (first | with_reducible exact Below.rf _ | with_reducible exact World.below_ext _ _ | with_reducible refine Below.ex ?_ _ | with_reducible refine Below.al ?_ _ | with_reducible refine Below.setCell ?_ (by simp) _ | with_reducible refine Below.drew ?_)
set_option maxRecDepth 20000 in
set_option maxHeartbeats 4000000 in
theorem crossing_eq (A P : Nat) (S D rr cc : Int) (pk : Value) (c1 c2 col r x : Nat) (w : World) (hA : 1 ≤ A ∧ A ≤ 8) (hP : 2 ≤ P ∧ P ≤ 3) (h1 : c1 ≤ 30) (h2 : c2 ≤ 30) (hc : True) (hx : x = r * P) (s1 : x ≤ c1 + P - 2) (s2 : c1 ≤ x + 1)
    (hdiv : ((c1 : Int) - 1 + P - 1).tdiv P = r)
    (hcol : col = (if r < A ∧ 1 + x ≤ c1 then 1 + x else if r = 0 then 1 + x else if A ≤ r then 1 + (x - P) else if c1 - (1 + (x - P)) ≤ (1 + x) - c1 then 1 + (x - P) else 1 + x)) :
    Calls Tryf.prog 78 #[.agg #[.int .i64 (A), .int .i64 S, .int .i64 (P), .int .i64 D, .int .i64 rr, .int .i64 cc, pk], .int .i64 (c1), .int .i64 (c1)] w fun e w' => e = .returned (.tuple #[.int .i64 (col), .int .i64 ((nab c1 col + nab c1 col - (c1 - c1) : Nat))]) ∧ ∃ z, w' = w.ext z := by
  have hP0 : ¬ (P : Int) = 0 := by omega
  have hr30 : x ≤ 40 := by omega
  have hrb : r ≤ 40 := by
    by_cases h : r ≤ 40
    · exact h
    · have := Nat.mul_le_mul (show 41 ≤ r by omega) hP.1; omega
  have cAt : ∀ (a x : Nat) (w' : World), x = a * P → x ≤ 100 → Calls Tryf.prog 61 #[.agg #[.int .i64 (A), .int .i64 S, .int .i64 (P), .int .i64 D, .int .i64 rr, .int .i64 cc, pk], .int .i64 (a)] w' fun e w'' => e = .returned (.int .i64 (((1 + x : Nat) : Int))) ∧ ∃ z, w'' = w'.ext z := fun a x w' hx hb => by
    have e : (a : Int) * P = (x : Int) := by rw [hx]; simp
    have h := aisleCol_any A S P D rr cc pk a w' (by rw [e]; omega)
    rw [e] at h
    simpa using h
  have hmul : (r - 1) * P = r * P - P := by rw [Nat.sub_mul, Nat.one_mul]
  have cRa := fun w' => cAt r x w' hx (by omega)
  have hx0 : r = 0 → x = 0 := fun h => by rw [hx, h, Nat.zero_mul]
  have hx1 : 1 ≤ r → P ≤ x := fun h => by
    have := Nat.mul_le_mul_right P h
    rwa [Nat.one_mul, ← hx] at this
  have cLa : ∀ w', 1 ≤ r → Calls Tryf.prog 61 #[.agg #[.int .i64 (A), .int .i64 S, .int .i64 (P), .int .i64 D, .int .i64 rr, .int .i64 cc, pk], .int .i64 ((r : Int) - 1)] w' fun e w'' => e = .returned (.int .i64 (((1 + (x - P) : Nat) : Int))) ∧ ∃ z, w'' = w'.ext z := fun w' h => by
    have := cAt (r - 1) (x - P) w' (by rw [hmul, hx]) (by omega)
    rwa [show ((r - 1 : Nat) : Int) = (r : Int) - 1 by omega] at this
  have cRb := hid cRa
  have cLb := hid cLa
  clear hmul hx cAt cRa cLa
  by_cases t1 : r < A
  · by_cases t2 : 1 + x ≤ c1
    · rw [if_pos ⟨t1, t2⟩] at hcol
      rw [ext_mid (by omega) (by omega)]
      subst hcol
      clear hx0 hx1
      go_enter Tryf.func78, Tryf.ntmps78
      go_wp2_with (go_at_call 61; refine (cRb.out _).mono ?_; rintro e w' ⟨rfl, z, rfl⟩)
      go_ret2
      refine ⟨ret_pair (by omega) (by omega), ?_⟩
      refine Below.is_ext ?_
      repeat (first | with_reducible exact Below.rf _ | with_reducible exact World.below_ext _ _ | with_reducible refine Below.ex ?_ _ | with_reducible refine Below.al ?_ _ | with_reducible refine Below.setCell ?_ (by simp) _ | with_reducible refine Below.drew ?_)
    · rw [if_neg (fun h => t2 h.2)] at hcol
      by_cases t3 : r = 0
      · subst t3
        obtain rfl := hx0 rfl
        rw [if_pos rfl] at hcol
        rw [ext_right (by omega) (Nat.le_refl _)]
        subst hcol
        have cRc : ∀ w', Calls Tryf.prog 61 #[.agg #[.int .i64 (A), .int .i64 S, .int .i64 (P), .int .i64 D, .int .i64 rr, .int .i64 cc, pk], .int .i64 (0)] w' fun e w'' => e = .returned (.int .i64 (1)) ∧ ∃ z, w'' = w'.ext z := fun w' => cRb.out w'
        have cRd := hid cRc
        clear hx0 hx1 cRc cLb
        go_enter Tryf.func78, Tryf.ntmps78
        go_wp2_with (go_at_call 61; refine (cRd.out _).mono ?_; rintro e w' ⟨rfl, z, rfl⟩)
        first | with_reducible refine wp_region_ext2 (by kernel_rfl) (by kernel_rfl) ?_ | refine wp_region_ext (by kernel_rfl) (by kernel_rfl) ?_
        repeat (go_big_quiet_step ((go_at_call 61; exact Calls.ext_of (cRd.out _))))
        refine wpQuiet_nil ?_
        rintro _ ⟨z, rfl⟩
        go_wp2
        go_ret2
        refine ⟨ret_pair (by omega) (by omega), ?_⟩
        refine Below.is_ext ?_
        repeat (first | with_reducible exact Below.rf _ | with_reducible exact World.below_ext _ _ | with_reducible refine Below.ex ?_ _ | with_reducible refine Below.al ?_ _ | with_reducible refine Below.setCell ?_ (by simp) _ | with_reducible refine Below.drew ?_)
      · rw [if_neg t3, if_neg (by omega)] at hcol
        have hPx := hx1 (by omega)
        clear hx0 hx1
        by_cases t4 : c1 - (1 + (x - P)) ≤ (1 + x) - c1
        · rw [if_pos t4] at hcol
          rw [ext_left (by omega) (Nat.le_refl _)]
          subst hcol
          go_enter Tryf.func78, Tryf.ntmps78
          go_wp2_with (go_at_call 61; refine (cRb.out _).mono ?_; rintro e w' ⟨rfl, z, rfl⟩)
          first | with_reducible refine wp_region_ext2 (by kernel_rfl) (by kernel_rfl) ?_ | refine wp_region_ext (by kernel_rfl) (by kernel_rfl) ?_
          repeat (go_big_quiet_step ((go_at_call 61; first | with_reducible exact Calls.ext_of (cRb.out _) | with_reducible exact Calls.ext_of (cLb.out _ (by omega)))))
          refine wpQuiet_nil ?_
          rintro _ ⟨z, rfl⟩
          go_wp2_with (go_at_call 61; refine (cLb.out _ (by omega)).mono ?_; rintro e w' ⟨rfl, z3, rfl⟩)
          go_ret2
          refine ⟨ret_pair (by omega) (by omega), ?_⟩
          refine Below.is_ext ?_
          repeat (first | with_reducible exact Below.rf _ | with_reducible exact World.below_ext _ _ | with_reducible refine Below.ex ?_ _ | with_reducible refine Below.al ?_ _ | with_reducible refine Below.setCell ?_ (by simp) _ | with_reducible refine Below.drew ?_)
        · rw [if_neg t4] at hcol
          rw [ext_right (by omega) (Nat.le_refl _)]
          subst hcol
          go_enter Tryf.func78, Tryf.ntmps78
          go_wp2_with (go_at_call 61; refine (cRb.out _).mono ?_; rintro e w' ⟨rfl, z, rfl⟩)
          first | with_reducible refine wp_region_ext2 (by kernel_rfl) (by kernel_rfl) ?_ | refine wp_region_ext (by kernel_rfl) (by kernel_rfl) ?_
          repeat (go_big_quiet_step ((go_at_call 61; first | with_reducible exact Calls.ext_of (cRb.out _) | with_reducible exact Calls.ext_of (cLb.out _ (by omega)))))
          refine wpQuiet_nil ?_
          rintro _ ⟨z, rfl⟩
          go_wp2_with (go_at_call 61; refine (cRb.out _).mono ?_; rintro e w' ⟨rfl, z3, rfl⟩)
          go_ret2
          refine ⟨ret_pair (by omega) (by omega), ?_⟩
          refine Below.is_ext ?_
          repeat (first | with_reducible exact Below.rf _ | with_reducible exact World.below_ext _ _ | with_reducible refine Below.ex ?_ _ | with_reducible refine Below.al ?_ _ | with_reducible refine Below.setCell ?_ (by simp) _ | with_reducible refine Below.drew ?_)
  · rw [if_neg (fun h => t1 h.1), if_neg (by omega), if_pos (by omega)] at hcol
    have hPx := hx1 (by omega)
    clear hx0 hx1
    rw [ext_left (by omega) (Nat.le_refl _)]
    subst hcol
    go_enter Tryf.func78, Tryf.ntmps78
    go_wp2_with fail
    first | with_reducible refine wp_region_ext2 (by kernel_rfl) (by kernel_rfl) ?_ | refine wp_region_ext (by kernel_rfl) (by kernel_rfl) ?_
    repeat (go_big_quiet_step ((go_at_call 61; exact Calls.ext_of (cLb.out _ (by omega)))))
    refine wpQuiet_nil ?_
    rintro _ ⟨z, rfl⟩
    go_wp2
    go_ret2
    refine ⟨ret_pair (by omega) (by omega), ?_⟩
    refine Below.is_ext ?_
    repeat (first | with_reducible exact Below.rf _ | with_reducible exact World.below_ext _ _ | with_reducible refine Below.ex ?_ _ | with_reducible refine Below.al ?_ _ | with_reducible refine Below.setCell ?_ (by simp) _ | with_reducible refine Below.drew ?_)

theorem crossing_any (A P : Nat) (S D rr cc : Int) (pk : Value) (c1 c2 : Nat) (w : World) (hA : 1 ≤ A ∧ A ≤ 8) (hP : 2 ≤ P ∧ P ≤ 3) (h1 : c1 ≤ 30) (h2 : c2 ≤ 30) :
    Calls Tryf.prog 78 #[.agg #[.int .i64 (A), .int .i64 S, .int .i64 (P), .int .i64 D, .int .i64 rr, .int .i64 cc, pk], .int .i64 (c1), .int .i64 (c2)] w fun e w' => e = .returned (.tuple #[.int .i64 (cCol A P (min c1 c2) (max c1 c2)), .int .i64 ((cX A P c1 c2 - nab c1 c2 : Nat))]) ∧ ∃ z, w' = w.ext z := by
  obtain ⟨s1, s2⟩ := cR_spec (P := P) (lo := min c1 c2) hP.1
  have hdiv : (((min c1 c2 : Nat) : Int) - 1 + P - 1).tdiv P = cR P (min c1 c2) := by
    rw [show (((min c1 c2 : Nat) : Int) - 1 + P - 1) = ((min c1 c2 + P - 2 : Nat) : Int) by omega]
    exact Int.ofNat_tdiv _ _
  have hmul : (cR P (min c1 c2) - 1) * P = cR P (min c1 c2) * P - P := by rw [Nat.sub_mul, Nat.one_mul]
  have hcol : cCol A P (min c1 c2) (max c1 c2) = _ := rfl
  conv at hcol => rhs; unfold cCol; rw [hmul]
  unfold cX
  rw [nab_lohi]
  generalize cCol A P (min c1 c2) (max c1 c2) = col at *
  generalize hr : cR P (min c1 c2) = r at *
  clear hmul hr
  rcases Nat.lt_trichotomy c1 c2 with h | h | h
  · rw [Nat.min_eq_left (Nat.le_of_lt h), Nat.max_eq_right (Nat.le_of_lt h)] at *
    exact crossing_lt A P S D rr cc pk c1 c2 col r _ w hA hP h1 h2 h rfl s1 s2 hdiv hcol
  · subst h
    rw [Nat.min_self, Nat.max_self] at *
    exact crossing_eq A P S D rr cc pk c1 c1 col r _ w hA hP h1 h2 trivial rfl s1 s2 hdiv hcol
  · rw [Nat.min_eq_right (Nat.le_of_lt h), Nat.max_eq_left (Nat.le_of_lt h)] at *
    exact crossing_gt A P S D rr cc pk c1 c2 col r _ w hA hP h1 h2 h rfl s1 s2 hdiv hcol
end Go.Proofs.Qxb6500715aFmt
