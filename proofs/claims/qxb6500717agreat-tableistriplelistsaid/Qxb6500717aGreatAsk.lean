/-
  The table's questions: the walks.
-/
import Derived.Test.Qxb6500717aGreatTab
namespace Go.Proofs.Qxb6500717aGreat
open Go.RowKit
set_option linter.unusedSimpArgs false
set_option linter.unusedVariables false

section
variable {w : World} {lab : Nat → Nat} {M : TabM} {T : TabS}
theorem TAt.c0 (h : TAt w lab M T) : w.cell? ⟨M.t, 0, none⟩ = some (.int .i64 (T.nc)) := h.bt.is 0 (by omega)
theorem TAt.c1 (h : TAt w lab M T) : w.cell? ⟨M.t, 1, none⟩ = some (.int .i64 (T.nr)) := h.bt.is 1 (by omega)
theorem TAt.c2 (h : TAt w lab M T) : w.cell? ⟨M.t, 2, none⟩ = some (.int .i64 (T.cap)) := h.bt.is 2 (by omega)
theorem TAt.c3 (h : TAt w lab M T) : w.cell? ⟨M.t, 3, none⟩ = some (.int .i64 (T.base)) := h.bt.is 3 (by omega)
theorem TAt.c4 (h : TAt w lab M T) : w.cell? ⟨M.t, 4, none⟩ = some (.int .i64 (T.held)) := h.bt.is 4 (by omega)
theorem TAt.c5 (h : TAt w lab M T) : w.cell? ⟨M.t, 5, none⟩ = some (.slice (some ⟨M.g, 0, none⟩) (256 * T.nc) M.gc) := h.bt.is 5 (by omega)
theorem TAt.c6 (h : TAt w lab M T) : w.cell? ⟨M.t, 6, none⟩ = some (.slice (some ⟨M.p, 0, none⟩) T.nr T.nr) := h.bt.is 6 (by omega)
theorem TAt.c7 (h : TAt w lab M T) : w.cell? ⟨M.t, 7, none⟩ = some (.slice (some ⟨M.s, 0, none⟩) T.nr T.nr) := h.bt.is 7 (by omega)
end

theorem ret_bool {a b : Bool} (h : a = b) : Ending.returned (.bool a) = .returned (.bool b) := by rw [h]

theorem inWindow_any (M : TabM) (T : TabS) (lab : Nat → Nat) (t : Int) (w : World) (h : TAt w lab M T) : Calls Tryz.prog 86 #[.pointer (some ⟨M.t, 0, none⟩), .int .i64 (t)] w fun e w' => e = .returned (.bool (T.win t)) ∧ w' = w := by
  have c3 := h.c3
  have hb := h.bd.base
  have hlt := h.bt.lt
  unfold TabS.win
  clear h
  go_enter Tryz.func86, Tryz.ntmps86
  go_wp2
  (all_goals (go_ret; refine ⟨ret_bool ?_, rfl⟩; (first | (simp; done) | (simp; omega) | (simp [*]; done) | (simp [*]; omega))))

/-- The span covers the tick. -/
def cov (x : Nat × Nat × Nat) (t : Int) : Bool := decide ((x.2.1 : Int) ≤ t) && decide (t < (x.2.2 : Int))
theorem covers_any (x : Nat × Nat × Nat) (t : Int) (w : World) : Calls Tryz.prog 87 #[.agg #[.int .i64 (x.1), .int .i64 (x.2.1), .int .i64 (x.2.2)], .int .i64 (t)] w fun e w' => e = .returned (.bool (cov x t)) ∧ ∃ z, w' = w.ext z := by
  unfold cov
  go_enter Tryz.func87, Tryz.ntmps87
  go_wp2
  (all_goals (go_ret; refine ⟨ret_bool ?_, ((Below.rf _).al _).is_ext⟩; (first | (simp; done) | (simp; omega) | (simp [*]; done) | (simp [*]; omega))))

theorem validRobot_any (M : TabM) (T : TabS) (lab : Nat → Nat) (r : Int) (w : World) (h : TAt w lab M T) : Calls Tryz.prog 75 #[.pointer (some ⟨M.t, 0, none⟩), .int .i64 (r)] w fun e w' => e = .returned (.bool (decide (0 ≤ r) && decide (r < (T.nr : Int)))) ∧ w' = w := by
  have c1 := h.c1
  have hlt := h.bt.lt
  clear h
  go_enter Tryz.func75, Tryz.ntmps75
  go_wp2
  (all_goals (go_ret; refine ⟨ret_bool ?_, rfl⟩; (first | (simp; done) | (simp; omega) | (simp [*]; done) | (simp [*]; omega))))
theorem validCell_any (M : TabM) (T : TabS) (lab : Nat → Nat) (c : Int) (w : World) (h : TAt w lab M T) : Calls Tryz.prog 76 #[.pointer (some ⟨M.t, 0, none⟩), .int .i64 (c)] w fun e w' => e = .returned (.bool (decide (0 ≤ c) && decide (c < (T.nc : Int)))) ∧ w' = w := by
  have c0 := h.c0
  have hlt := h.bt.lt
  clear h
  go_enter Tryz.func76, Tryz.ntmps76
  go_wp2
  (all_goals (go_ret; refine ⟨ret_bool ?_, rfl⟩; (first | (simp; done) | (simp; omega) | (simp [*]; done) | (simp [*]; omega))))
theorem askable_any (M : TabM) (T : TabS) (lab : Nat → Nat) (t : Int) (w : World) (h : TAt w lab M T) : Calls Tryz.prog 77 #[.pointer (some ⟨M.t, 0, none⟩), .int .i64 (t)] w fun e w' => e = .returned (.bool (decide ((T.base : Int) ≤ t) && decide (t < 1099511627776))) ∧ w' = w := by
  have c3 := h.c3
  have hlt := h.bt.lt
  clear h
  go_enter Tryz.func77, Tryz.ntmps77
  go_wp2
  (all_goals (go_ret; refine ⟨ret_bool ?_, rfl⟩; (first | (simp; done) | (simp; omega) | (simp [*]; done) | (simp [*]; omega))))

/-- What 'place' answers. -/
def TabS.place (T : TabS) (r c t : Int) : Int :=
  if (decide (0 ≤ r) && decide (r < (T.nr : Int))) = false ∨ (decide (0 ≤ c) && decide (c < (T.nc : Int))) = false then 2 else if t < T.base then 3 else if (T.base : Int) + 256 ≤ t then 4 else 0
theorem place_any (M : TabM) (T : TabS) (lab : Nat → Nat) (r c t : Int) (w : World) (h : TAt w lab M T) : Calls Tryz.prog 68 #[.pointer (some ⟨M.t, 0, none⟩), .int .i64 (r), .int .i64 (c), .int .i64 (t)] w fun e w' => e = .returned (.int .u8 (T.place r c t)) ∧ w' = w := by
  have HH := hid h
  have c3 := h.c3
  have hb := h.bd.base
  have hlt := h.bt.lt
  have VR := hid (validRobot_any M T lab r w h)
  have VC := hid (validCell_any M T lab c w h)
  unfold TabS.place
  generalize (decide (0 ≤ r) && decide (r < (T.nr : Int))) = x at *
  generalize (decide (0 ≤ c) && decide (c < (T.nc : Int))) = y at *
  clear h
  cases x with
  | false =>
    rw [if_pos (Or.inl rfl)]
    go_enter Tryz.func68, Tryz.ntmps68
    go_wp2_with (go_at_call 75; refine VR.out.mono ?_; rintro e w' ⟨rfl, rfl⟩)
    go_ret
    exact ⟨rfl, rfl⟩
  | true =>
    cases y with
    | false =>
      rw [if_pos (Or.inr rfl)]
      go_enter Tryz.func68, Tryz.ntmps68
      go_wp2_with (first | (go_at_call 75; refine VR.out.mono ?_; rintro e w' ⟨rfl, rfl⟩) | (go_at_call 76; refine VC.out.mono ?_; rintro e w' ⟨rfl, rfl⟩))
      go_ret
      exact ⟨rfl, rfl⟩
    | true =>
      rw [if_neg (by simp)]
      by_cases h1 : t < (T.base : Int)
      · rw [if_pos h1]
        go_enter Tryz.func68, Tryz.ntmps68
        go_wp2_with (first | (go_at_call 75; refine VR.out.mono ?_; rintro e w' ⟨rfl, rfl⟩) | (go_at_call 76; refine VC.out.mono ?_; rintro e w' ⟨rfl, rfl⟩))
        go_ret
        exact ⟨rfl, rfl⟩
      · rw [if_neg h1]
        by_cases h2 : (T.base : Int) + 256 ≤ t
        · rw [if_pos h2]
          go_enter Tryz.func68, Tryz.ntmps68
          go_wp2_with (first | (go_at_call 75; refine VR.out.mono ?_; rintro e w' ⟨rfl, rfl⟩) | (go_at_call 76; refine VC.out.mono ?_; rintro e w' ⟨rfl, rfl⟩))
          go_ret
          exact ⟨rfl, rfl⟩
        · rw [if_neg h2]
          go_enter Tryz.func68, Tryz.ntmps68
          go_wp2_with (first | (go_at_call 75; refine VR.out.mono ?_; rintro e w' ⟨rfl, rfl⟩) | (go_at_call 76; refine VC.out.mono ?_; rintro e w' ⟨rfl, rfl⟩))
          go_ret
          exact ⟨rfl, rfl⟩
end Go.Proofs.Qxb6500717aGreat
