/-
  swaps, joins: the walks.
-/
import Derived.Test.Qxb6500717aGreatHold
namespace Go.Proofs.Qxb6500717aGreat
open Go.RowKit
set_option linter.unusedSimpArgs false
set_option linter.unusedVariables false

theorem spAt_bd (l : List (Nat × Nat × Nat)) (t : Int) (n : Nat) (h : ∀ x, x ∈ l → x.1 < n) : -1 ≤ spAt l t ∧ spAt l t < n := by
  induction l with
  | nil => simp [spAt]; omega
  | cons x l ih =>
    have := ih (fun y hy => h y (by simp [hy]))
    have := h x (by simp)
    unfold spAt
    split <;> omega
theorem TabS.at_bd {T : TabS} (hb : TBd T) {r : Nat} (hr : r < T.nr) (t : Int) : -1 ≤ T.at r t ∧ T.at r t < T.nc := by
  unfold TabS.at
  split
  · exact hb.pl r _ hr (Nat.mod_lt _ (by omega))
  · exact spAt_bd _ _ _ (fun x hx => (hb.sp r x hr hx).1)
theorem spBy_bd (T : TabS) (c : Nat) (t : Int) : ∀ (n k : Nat), -1 ≤ T.spBy c t k n ∧ T.spBy c t k n < (k + n : Nat) := by
  intro n
  induction n with
  | zero => intro k; simp [TabS.spBy]; omega
  | succ n ih =>
    intro k
    unfold TabS.spBy
    have := ih (k + 1)
    split <;> omega
theorem TabS.hold_bd {T : TabS} (hb : TBd T) {c : Nat} (hc : c < T.nc) (t : Int) : -1 ≤ T.hold c t ∧ T.hold c t < T.nr := by
  unfold TabS.hold
  split
  · have hi : t.toNat % 256 * T.nc + c < 256 * T.nc := by
      have h1 := Nat.mul_le_mul_right T.nc (show t.toNat % 256 + 1 ≤ 256 by omega)
      rw [Nat.add_mul, Nat.one_mul] at h1
      omega
    have := hb.gr _ hi
    omega
  · have := spBy_bd T c t T.nr 0
    omega

set_option maxRecDepth 20000 in
set_option maxHeartbeats 2000000 in
theorem swaps_any (M : TabM) (T : TabS) (lab : Nat → Nat) (r : Int) (a b : Nat) (t : Int) (w : World) (h : TAt w lab M T) (ha : a < T.nc) (hb : b < T.nc) (ht : -9000000000000000000 ≤ t ∧ t ≤ 9000000000000000000) :
    Calls Tryz.prog 74 #[.pointer (some ⟨M.t, 0, none⟩), .int .i64 (r), .int .i64 (a), .int .i64 (b), .int .i64 (t)] w fun e w' => e = .returned (.bool (T.swaps r a b t)) ∧ ∃ z, w' = w.ext z := by
  have HH := hid h
  have h1 := hold_any M T lab b t w h hb
  have h2 := fun z => hold_any M T lab a (t + 1) (w.ext z) (h.ex z) ha
  have H1 := hid h1
  have H2 := hid h2
  unfold TabS.swaps
  generalize T.hold b t = x at *
  generalize T.hold a (t + 1) = y at *
  clear h h1 h2
  by_cases hab : a = b
  · rw [if_pos hab]
    have e1 : ((a : Int) == b) = true := by simp; omega
    clear hab
    go_enter Tryz.func74, Tryz.ntmps74
    go_wp2
    go_ret
    exact ⟨rfl, (Below.rf _).is_ext⟩
  · rw [if_neg hab]
    have e1 : ((a : Int) == b) = false := by simp; omega
    by_cases hx : x = -1
    · subst hx
      rw [decide_eq_false (fun h => h.1 rfl)]
      clear hab
      go_enter Tryz.func74, Tryz.ntmps74
      go_wp2_with (go_at_call 70; with_reducible refine H1.out.mono ?_; rintro e w' ⟨rfl, z1, rfl⟩)
      go_ret
      exact ⟨rfl, ⟨_, rfl⟩⟩
    · have e2 : (x == -1) = false := by simpa using hx
      have f2 : (x != -1) = true := by simpa using hx
      by_cases hxr : x = r
      · subst hxr
        rw [decide_eq_false (fun h => h.2.1 rfl)]
        clear hab hx
        go_enter Tryz.func74, Tryz.ntmps74
        go_wp2_with (go_at_call 70; with_reducible refine H1.out.mono ?_; rintro e w' ⟨rfl, z1, rfl⟩)
        go_ret
        exact ⟨rfl, ⟨_, rfl⟩⟩
      · have e3 : (x == r) = false := by simpa using hxr
        have f3 : (x != r) = true := by simpa using hxr
        have e4 : decide (x ≠ -1 ∧ x ≠ r ∧ y = x) = (y == x) := by
          rw [Bool.eq_iff_iff]; simp [hx, hxr]
        rw [e4]
        clear hab hx hxr e4
        go_enter Tryz.func74, Tryz.ntmps74
        go_wp2_with (go_at_call 70; first | (with_reducible refine H1.out.mono ?_; rintro e w' ⟨rfl, z1, rfl⟩) | (with_reducible refine (H2.out _).mono ?_; rintro e w' ⟨rfl, z2, rfl⟩))
        go_ret
        refine ⟨rfl, ?_⟩
        refine Below.is_ext ?_
        repeat (first | with_reducible exact Below.rf _ | with_reducible exact World.below_ext _ _ | with_reducible refine Below.ex ?_ _ | with_reducible refine Below.al ?_ _ | with_reducible refine Below.setCell ?_ (by simp) _ | with_reducible refine Below.drew ?_)


/-- What 'joins' answers. -/
def TabS.joins (T : TabS) (r c : Nat) (t : Int) : Bool :=
  (decide (T.at r (t - 1) ≠ -1) && T.swaps r (T.at r (t - 1)).toNat c (t - 1)) || (decide (T.at r (t + 1) ≠ -1) && T.swaps r c (T.at r (t + 1)).toNat t)

set_option maxRecDepth 20000 in
set_option maxHeartbeats 2000000 in
theorem joins_any (M : TabM) (T : TabS) (lab : Nat → Nat) (r c : Nat) (t : Int) (w : World) (h : TAt w lab M T) (hr : r < T.nr) (hc : c < T.nc) (ht : -8000000000000000000 ≤ t ∧ t ≤ 8000000000000000000) :
    Calls Tryz.prog 71 #[.pointer (some ⟨M.t, 0, none⟩), .int .i64 (r), .int .i64 (c), .int .i64 (t)] w fun e w' => e = .returned (.bool (T.joins r c t)) ∧ ∃ z, w' = w.ext z := by
  have hb1 := TabS.at_bd h.bd hr (t - 1)
  have hb2 := TabS.at_bd h.bd hr (t + 1)
  have A1 := hid (at_any M T lab r (t - 1) w h hr)
  have A2 := hid (fun z => at_any M T lab r (t + 1) (w.ext z) (h.ex z) hr)
  have hs1 := fun (pn : Nat) (hlt : pn < T.nc) z => swaps_any M T lab r pn c (t - 1) (w.ext z) (h.ex z) hlt hc (by omega)
  have hs2 := fun (pn : Nat) (hlt : pn < T.nc) z => swaps_any M T lab r c pn t (w.ext z) (h.ex z) hc hlt (by omega)
  have hnc := h.bd.nc
  unfold TabS.joins
  obtain ⟨p, hp⟩ : ∃ p, T.at r (t - 1) = p := ⟨_, rfl⟩
  obtain ⟨q, hq⟩ : ∃ q, T.at r (t + 1) = q := ⟨_, rfl⟩
  rw [hp] at hb1 A1 ⊢
  rw [hq] at hb2 A2 ⊢
  clear h hp hq
  -- the second half, the world grown
  rcases (by omega : p = -1 ∨ 0 ≤ p) with rfl | hp0
  · simp only [ne_eq, not_true_eq_false, decide_false, Bool.false_and, Bool.false_or]
    rcases (by omega : q = -1 ∨ 0 ≤ q) with rfl | hq0
    · simp only [not_true_eq_false, decide_false, Bool.false_and]
      clear hs1 hs2
      go_enter Tryz.func71, Tryz.ntmps71
      go_wp2_with (go_at_call 69; first | (with_reducible refine A1.out.mono ?_; rintro e w' ⟨rfl, z1, rfl⟩) | (with_reducible refine (A2.out _).mono ?_; rintro e w' ⟨rfl, z2, rfl⟩))
      go_ret
      refine ⟨rfl, ?_⟩
      refine Below.is_ext ?_
      repeat (first | with_reducible exact Below.rf _ | with_reducible exact World.below_ext _ _ | with_reducible refine Below.ex ?_ _ | with_reducible refine Below.al ?_ _ | with_reducible refine Below.setCell ?_ (by simp) _ | with_reducible refine Below.drew ?_)
    · obtain ⟨qn, rfl⟩ : ∃ qn : Nat, q = qn := ⟨q.toNat, by omega⟩
      have S2 := hid (hs2 qn (by omega))
      rw [Int.toNat_natCast]
      have e1 : decide (¬ (qn : Int) = -1) = true := by simp
      rw [e1, Bool.true_and]
      have e2 : ((qn : Int) != -1) = true := by simp
      have e3 : ((qn : Int) == -1) = false := by simp
      generalize T.swaps r c qn t = s2 at *
      clear hs1 hs2 e1
      go_enter Tryz.func71, Tryz.ntmps71
      go_wp2_with (first | (go_at_call 69; first | (with_reducible refine A1.out.mono ?_; rintro e w' ⟨rfl, z1, rfl⟩) | (with_reducible refine (A2.out _).mono ?_; rintro e w' ⟨rfl, z2, rfl⟩)) | (go_at_call 74; refine (S2.out _).mono ?_; rintro e w' ⟨rfl, z3, rfl⟩))
      go_ret
      refine ⟨rfl, ?_⟩
      refine Below.is_ext ?_
      repeat (first | with_reducible exact Below.rf _ | with_reducible exact World.below_ext _ _ | with_reducible refine Below.ex ?_ _ | with_reducible refine Below.al ?_ _ | with_reducible refine Below.setCell ?_ (by simp) _ | with_reducible refine Below.drew ?_)
  · obtain ⟨pn, rfl⟩ : ∃ pn : Nat, p = pn := ⟨p.toNat, by omega⟩
    have S1 := hid (hs1 pn (by omega))
    rw [Int.toNat_natCast]
    have e1 : decide (¬ (pn : Int) = -1) = true := by simp
    simp only [ne_eq]
    rw [e1, Bool.true_and]
    have e2 : ((pn : Int) != -1) = true := by simp
    have e3 : ((pn : Int) == -1) = false := by simp
    cases hsv : T.swaps r pn c (t - 1) with
    | true =>
      rw [hsv] at S1
      rw [Bool.true_or]
      clear hs1 hs2 e1 hsv
      go_enter Tryz.func71, Tryz.ntmps71
      go_wp2_with (first | (go_at_call 69; first | (with_reducible refine A1.out.mono ?_; rintro e w' ⟨rfl, z1, rfl⟩) | (with_reducible refine (A2.out _).mono ?_; rintro e w' ⟨rfl, z2, rfl⟩)) | (go_at_call 74; refine (S1.out _).mono ?_; rintro e w' ⟨rfl, z3, rfl⟩))
      go_ret
      refine ⟨rfl, ?_⟩
      refine Below.is_ext ?_
      repeat (first | with_reducible exact Below.rf _ | with_reducible exact World.below_ext _ _ | with_reducible refine Below.ex ?_ _ | with_reducible refine Below.al ?_ _ | with_reducible refine Below.setCell ?_ (by simp) _ | with_reducible refine Below.drew ?_)
    | false =>
      rw [hsv] at S1
      rw [Bool.false_or]
      rcases (by omega : q = -1 ∨ 0 ≤ q) with rfl | hq0
      · simp only [not_true_eq_false, decide_false, Bool.false_and]
        clear hs1 hs2 e1 hsv
        go_enter Tryz.func71, Tryz.ntmps71
        go_wp2_with (first | (go_at_call 69; first | (with_reducible refine A1.out.mono ?_; rintro e w' ⟨rfl, z1, rfl⟩) | (with_reducible refine (A2.out _).mono ?_; rintro e w' ⟨rfl, z2, rfl⟩)) | (go_at_call 74; refine (S1.out _).mono ?_; rintro e w' ⟨rfl, z3, rfl⟩))
        go_ret
        refine ⟨rfl, ?_⟩
        refine Below.is_ext ?_
        repeat (first | with_reducible exact Below.rf _ | with_reducible exact World.below_ext _ _ | with_reducible refine Below.ex ?_ _ | with_reducible refine Below.al ?_ _ | with_reducible refine Below.setCell ?_ (by simp) _ | with_reducible refine Below.drew ?_)
      · obtain ⟨qn, rfl⟩ : ∃ qn : Nat, q = qn := ⟨q.toNat, by omega⟩
        have S2 := hid (hs2 qn (by omega))
        rw [Int.toNat_natCast]
        have g1 : decide (¬ (qn : Int) = -1) = true := by simp
        rw [g1, Bool.true_and]
        have g2 : ((qn : Int) != -1) = true := by simp
        have g3 : ((qn : Int) == -1) = false := by simp
        generalize T.swaps r c qn t = s2 at *
        clear hs1 hs2 e1 g1 hsv
        go_enter Tryz.func71, Tryz.ntmps71
        go_wp2_with (first | (go_at_call 69; first | (with_reducible refine A1.out.mono ?_; rintro e w' ⟨rfl, z1, rfl⟩) | (with_reducible refine (A2.out _).mono ?_; rintro e w' ⟨rfl, z2, rfl⟩)) | (go_at_call 74; first | (with_reducible refine (S1.out _).mono ?_; rintro e w' ⟨rfl, z3, rfl⟩) | (with_reducible refine (S2.out _).mono ?_; rintro e w' ⟨rfl, z4, rfl⟩)))
        go_ret
        refine ⟨rfl, ?_⟩
        refine Below.is_ext ?_
        repeat (first | with_reducible exact Below.rf _ | with_reducible exact World.below_ext _ _ | with_reducible refine Below.ex ?_ _ | with_reducible refine Below.al ?_ _ | with_reducible refine Below.setCell ?_ (by simp) _ | with_reducible refine Below.drew ?_)
end Go.Proofs.Qxb6500717aGreat
