/-
  Validate: a layout is accepted just if it is valid.
-/
import Derived.Test.Qxb6500715aFmtValid
namespace Go.Proofs.Qxb6500715aFmt
open Go.RowKit
set_option linter.unusedSimpArgs false
set_option linter.unusedVariables false

set_option maxHeartbeats 1000000 in
theorem validate_any (A S P D r c : Int) (pb po n cap : Nat) (px py : Nat → Int) (w : World) (hA : -1000 ≤ A ∧ A ≤ 1000) (hS : -1000 ≤ S ∧ S ≤ 1000) (hP : -1000 ≤ P ∧ P ≤ 1000)
    (hn6 : n ≤ 1000) (hnc : n ≤ cap) (hw0 : 0 < w.heap.size) (hpb : pb < w.heap.size) (hg0 : w.cell? ⟨0, 0, none⟩ = some (.int .u8 0)) (hg1 : w.cell? ⟨0, 1, none⟩ = some (.int .i64 0))
    (hc0 : ∀ i, i < n → w.cell? ⟨pb, po + i * 2, none⟩ = some (.int .i64 (px i))) (hc1 : ∀ i, i < n → w.cell? ⟨pb, po + i * 2 + 1, none⟩ = some (.int .i64 (py i))) :
    Calls Tryf.prog 46 #[.agg #[.int .i64 A, .int .i64 S, .int .i64 P, .int .i64 D, .int .i64 r, .int .i64 c, .slice (some ⟨pb, po, none⟩) n cap]] w fun e w' =>
      ∃ k o, e = .returned (.agg #[.int .u8 k, .int .i64 (o)]) ∧ (k = 0 ↔ layOk A S P D r c n px py) ∧ ∃ z, w' = w.ext z := by
  have hi0 : ∀ w, (Instr.index 124 (.agg #[.int .i64 (A), .int .i64 (1), .int .i64 (8), .int .u8 7, .int .i64 (2), .int .i64 (S), .int .i64 (1), .int .i64 (12), .int .u8 8, .int .i64 (3),
        .int .i64 (P), .int .i64 (2), .int .i64 (3), .int .u8 9, .int .i64 (4), .int .i64 (D), .int .i64 (1), .int .i64 (2), .int .u8 10, .int .i64 (5)]) (.int .i64 0)).run Tryf.prog w = .ok (.agg #[.int .i64 (A), .int .i64 (1), .int .i64 (8), .int .u8 7, .int .i64 (2)]) w := fun _ => by kernel_rfl
  have hi1 : ∀ w, (Instr.index 124 (.agg #[.int .i64 (A), .int .i64 (1), .int .i64 (8), .int .u8 7, .int .i64 (2), .int .i64 (S), .int .i64 (1), .int .i64 (12), .int .u8 8, .int .i64 (3),
        .int .i64 (P), .int .i64 (2), .int .i64 (3), .int .u8 9, .int .i64 (4), .int .i64 (D), .int .i64 (1), .int .i64 (2), .int .u8 10, .int .i64 (5)]) (.int .i64 1)).run Tryf.prog w = .ok (.agg #[.int .i64 (S), .int .i64 (1), .int .i64 (12), .int .u8 8, .int .i64 (3)]) w := fun _ => by kernel_rfl
  have hi2 : ∀ w, (Instr.index 124 (.agg #[.int .i64 (A), .int .i64 (1), .int .i64 (8), .int .u8 7, .int .i64 (2), .int .i64 (S), .int .i64 (1), .int .i64 (12), .int .u8 8, .int .i64 (3),
        .int .i64 (P), .int .i64 (2), .int .i64 (3), .int .u8 9, .int .i64 (4), .int .i64 (D), .int .i64 (1), .int .i64 (2), .int .u8 10, .int .i64 (5)]) (.int .i64 2)).run Tryf.prog w = .ok (.agg #[.int .i64 (P), .int .i64 (2), .int .i64 (3), .int .u8 9, .int .i64 (4)]) w := fun _ => by kernel_rfl
  have hi3 : ∀ w, (Instr.index 124 (.agg #[.int .i64 (A), .int .i64 (1), .int .i64 (8), .int .u8 7, .int .i64 (2), .int .i64 (S), .int .i64 (1), .int .i64 (12), .int .u8 8, .int .i64 (3),
        .int .i64 (P), .int .i64 (2), .int .i64 (3), .int .u8 9, .int .i64 (4), .int .i64 (D), .int .i64 (1), .int .i64 (2), .int .u8 10, .int .i64 (5)]) (.int .i64 3)).run Tryf.prog w = .ok (.agg #[.int .i64 (D), .int .i64 (1), .int .i64 (2), .int .u8 10, .int .i64 (5)]) w := fun _ => by kernel_rfl
  rcases Bool.eq_false_or_eq_true (robotsOk n) with hr | hr
  case inr =>
    go_enter Tryf.func46, Tryf.ntmps46
    go_wp2_with (first | (go_at_call 66; refine (Calls.tf (robots_any _ _) hr).mono ?_; rintro e w' ⟨rfl, z, rfl⟩) | (go_at_call 65; refine (refuse_any _ _ _).mono ?_; rintro e w' ⟨rfl, z, rfl⟩))
    refine bodyPost_ret (v := .agg #[.int .u8 4, .int .i64 (8)]) (by simp [results, Tryf.results46, go_sem, ↓IntWalk.iteOmega]) rfl ⟨4, _, rfl, ?_, ?_⟩
    · refine ⟨fun h => absurd h (by decide), fun h => ?_⟩
      simp [robotsOk] at hr; have := h.1; omega
    · refine Below.is_ext ?_
      repeat (first | with_reducible exact Below.rf _ | with_reducible exact World.below_ext _ _ | with_reducible refine Below.ex ?_ _ | with_reducible refine Below.al ?_ _ | with_reducible refine Below.setCell ?_ (by simp) _ | with_reducible refine Below.drew ?_)
  case inl =>
    go_enter Tryf.func46, Tryf.ntmps46
    go_wp2_with (first | (go_at_call 66; refine (Calls.tf (robots_any _ _) hr).mono ?_; rintro e w' ⟨rfl, z, rfl⟩) | (go_at_call 69; refine (bounds_any _ _ _ _ _ _ _ _).mono ?_; rintro e w' ⟨rfl, z, rfl⟩))
    go_loopw [13] (fun i w' => ∃ k : Nat, k ≤ 4 ∧ i = .int .i64 (k) ∧ ((1 ≤ k → 1 ≤ A ∧ A ≤ 8) ∧ (2 ≤ k → 1 ≤ S ∧ S ≤ 12) ∧ (3 ≤ k → 2 ≤ P ∧ P ≤ 3) ∧ (4 ≤ k → 1 ≤ D ∧ D ≤ 2)) ∧ ∃ z, w' = ((w.alloc (.cells #[.int .i64 (A), .int .i64 (S), .int .i64 (P), .int .i64 (D), .int .i64 (r), .int .i64 (c), .slice (some ⟨pb, po, none⟩) n cap] 46)).alloc (.cells #[.int .u8 0, .int .i64 0] 36)).ext z) (fun i _ => 4 - (intOf i).toNat)
    case atStart => exact ⟨0, by omega, rfl, ⟨by omega, by omega, by omega, by omega⟩, ⟨_, rfl⟩⟩
    case round =>
      obtain ⟨k, hk, rfl, ⟨a1, a2, a3, a4⟩, z, rfl⟩ := hrel
      rcases (by omega : k = 0 ∨ k = 1 ∨ k = 2 ∨ k = 3 ∨ k = 4) with rfl | rfl | rfl | rfl | rfl
      · by_cases h1 : A < 1
        · go_wp2_with (go_at_call 65; refine (refuse_any _ _ _).mono ?_; rintro e w' ⟨rfl, z, rfl⟩)
          refine bodyPost_ret (v := .agg #[.int .u8 7, .int .i64 (2)]) (by simp [results, Tryf.results46, go_sem, ↓IntWalk.iteOmega]) rfl ⟨7, _, rfl, ?_, ?_⟩
          · refine ⟨fun h => absurd h (by decide), fun h => ?_⟩
            obtain ⟨_, g1, g2, g3, g4, _⟩ := h; omega
          · refine Below.is_ext ?_
            repeat (first | with_reducible exact Below.rf _ | with_reducible exact World.below_ext _ _ | with_reducible refine Below.ex ?_ _ | with_reducible refine Below.al ?_ _ | with_reducible refine Below.setCell ?_ (by simp) _ | with_reducible refine Below.drew ?_)
        · by_cases h2 : 8 < A
          · go_wp2_with (go_at_call 65; refine (refuse_any _ _ _).mono ?_; rintro e w' ⟨rfl, z, rfl⟩)
            refine bodyPost_ret (v := .agg #[.int .u8 7, .int .i64 (2)]) (by simp [results, Tryf.results46, go_sem, ↓IntWalk.iteOmega]) rfl ⟨7, _, rfl, ?_, ?_⟩
            · refine ⟨fun h => absurd h (by decide), fun h => ?_⟩
              obtain ⟨_, g1, g2, g3, g4, _⟩ := h; omega
            · refine Below.is_ext ?_
              repeat (first | with_reducible exact Below.rf _ | with_reducible exact World.below_ext _ _ | with_reducible refine Below.ex ?_ _ | with_reducible refine Below.al ?_ _ | with_reducible refine Below.setCell ?_ (by simp) _ | with_reducible refine Below.drew ?_)
          · go_wp2
            go_roundw
            case rel => exact ⟨0 + 1, by omega, by go_num, ⟨by omega, by omega, by omega, by omega⟩, ((World.below_ext _ _).al _).is_ext⟩
            case measure => simp [intOf]
      · by_cases h1 : S < 1
        · go_wp2_with (go_at_call 65; refine (refuse_any _ _ _).mono ?_; rintro e w' ⟨rfl, z, rfl⟩)
          refine bodyPost_ret (v := .agg #[.int .u8 8, .int .i64 (3)]) (by simp [results, Tryf.results46, go_sem, ↓IntWalk.iteOmega]) rfl ⟨8, _, rfl, ?_, ?_⟩
          · refine ⟨fun h => absurd h (by decide), fun h => ?_⟩
            obtain ⟨_, g1, g2, g3, g4, _⟩ := h; omega
          · refine Below.is_ext ?_
            repeat (first | with_reducible exact Below.rf _ | with_reducible exact World.below_ext _ _ | with_reducible refine Below.ex ?_ _ | with_reducible refine Below.al ?_ _ | with_reducible refine Below.setCell ?_ (by simp) _ | with_reducible refine Below.drew ?_)
        · by_cases h2 : 12 < S
          · go_wp2_with (go_at_call 65; refine (refuse_any _ _ _).mono ?_; rintro e w' ⟨rfl, z, rfl⟩)
            refine bodyPost_ret (v := .agg #[.int .u8 8, .int .i64 (3)]) (by simp [results, Tryf.results46, go_sem, ↓IntWalk.iteOmega]) rfl ⟨8, _, rfl, ?_, ?_⟩
            · refine ⟨fun h => absurd h (by decide), fun h => ?_⟩
              obtain ⟨_, g1, g2, g3, g4, _⟩ := h; omega
            · refine Below.is_ext ?_
              repeat (first | with_reducible exact Below.rf _ | with_reducible exact World.below_ext _ _ | with_reducible refine Below.ex ?_ _ | with_reducible refine Below.al ?_ _ | with_reducible refine Below.setCell ?_ (by simp) _ | with_reducible refine Below.drew ?_)
          · go_wp2
            go_roundw
            case rel => exact ⟨1 + 1, by omega, by go_num, ⟨by omega, by omega, by omega, by omega⟩, ((World.below_ext _ _).al _).is_ext⟩
            case measure => simp [intOf]
      · by_cases h1 : P < 2
        · go_wp2_with (go_at_call 65; refine (refuse_any _ _ _).mono ?_; rintro e w' ⟨rfl, z, rfl⟩)
          refine bodyPost_ret (v := .agg #[.int .u8 9, .int .i64 (4)]) (by simp [results, Tryf.results46, go_sem, ↓IntWalk.iteOmega]) rfl ⟨9, _, rfl, ?_, ?_⟩
          · refine ⟨fun h => absurd h (by decide), fun h => ?_⟩
            obtain ⟨_, g1, g2, g3, g4, _⟩ := h; omega
          · refine Below.is_ext ?_
            repeat (first | with_reducible exact Below.rf _ | with_reducible exact World.below_ext _ _ | with_reducible refine Below.ex ?_ _ | with_reducible refine Below.al ?_ _ | with_reducible refine Below.setCell ?_ (by simp) _ | with_reducible refine Below.drew ?_)
        · by_cases h2 : 3 < P
          · go_wp2_with (go_at_call 65; refine (refuse_any _ _ _).mono ?_; rintro e w' ⟨rfl, z, rfl⟩)
            refine bodyPost_ret (v := .agg #[.int .u8 9, .int .i64 (4)]) (by simp [results, Tryf.results46, go_sem, ↓IntWalk.iteOmega]) rfl ⟨9, _, rfl, ?_, ?_⟩
            · refine ⟨fun h => absurd h (by decide), fun h => ?_⟩
              obtain ⟨_, g1, g2, g3, g4, _⟩ := h; omega
            · refine Below.is_ext ?_
              repeat (first | with_reducible exact Below.rf _ | with_reducible exact World.below_ext _ _ | with_reducible refine Below.ex ?_ _ | with_reducible refine Below.al ?_ _ | with_reducible refine Below.setCell ?_ (by simp) _ | with_reducible refine Below.drew ?_)
          · go_wp2
            go_roundw
            case rel => exact ⟨2 + 1, by omega, by go_num, ⟨by omega, by omega, by omega, by omega⟩, ((World.below_ext _ _).al _).is_ext⟩
            case measure => simp [intOf]
      · by_cases h1 : D < 1
        · go_wp2_with (go_at_call 65; refine (refuse_any _ _ _).mono ?_; rintro e w' ⟨rfl, z, rfl⟩)
          refine bodyPost_ret (v := .agg #[.int .u8 10, .int .i64 (5)]) (by simp [results, Tryf.results46, go_sem, ↓IntWalk.iteOmega]) rfl ⟨10, _, rfl, ?_, ?_⟩
          · refine ⟨fun h => absurd h (by decide), fun h => ?_⟩
            obtain ⟨_, g1, g2, g3, g4, _⟩ := h; omega
          · refine Below.is_ext ?_
            repeat (first | with_reducible exact Below.rf _ | with_reducible exact World.below_ext _ _ | with_reducible refine Below.ex ?_ _ | with_reducible refine Below.al ?_ _ | with_reducible refine Below.setCell ?_ (by simp) _ | with_reducible refine Below.drew ?_)
        · by_cases h2 : 2 < D
          · go_wp2_with (go_at_call 65; refine (refuse_any _ _ _).mono ?_; rintro e w' ⟨rfl, z, rfl⟩)
            refine bodyPost_ret (v := .agg #[.int .u8 10, .int .i64 (5)]) (by simp [results, Tryf.results46, go_sem, ↓IntWalk.iteOmega]) rfl ⟨10, _, rfl, ?_, ?_⟩
            · refine ⟨fun h => absurd h (by decide), fun h => ?_⟩
              obtain ⟨_, g1, g2, g3, g4, _⟩ := h; omega
            · refine Below.is_ext ?_
              repeat (first | with_reducible exact Below.rf _ | with_reducible exact World.below_ext _ _ | with_reducible refine Below.ex ?_ _ | with_reducible refine Below.al ?_ _ | with_reducible refine Below.setCell ?_ (by simp) _ | with_reducible refine Below.drew ?_)
          · go_wp2
            go_roundw
            case rel => exact ⟨3 + 1, by omega, by go_num, ⟨by omega, by omega, by omega, by omega⟩, ((World.below_ext _ _).al _).is_ext⟩
            case measure => simp [intOf]
      · have b1 := a1 (by omega)
        have b2 := a2 (by omega)
        have b3 := a3 (by omega)
        have b4 := a4 (by omega)
        clear a1 a2 a3 a4 hi0 hi1 hi2 hi3
        have hpw : -1000000 ≤ (A - 1) * P ∧ (A - 1) * P ≤ 1000000 := by
          rcases (by omega : P = 2 ∨ P = 3) with rfl | rfl <;> omega
        rcases Bool.eq_false_or_eq_true (r != 1) with hd | hd
        · go_wp2_with (go_at_call 65; refine (refuse_any _ _ _).mono ?_; rintro e w' ⟨rfl, z, rfl⟩)
          refine bodyPost_ret (v := .agg #[.int .u8 11, .int .i64 (6)]) (by simp [results, Tryf.results46, go_sem, ↓IntWalk.iteOmega]) rfl ⟨11, _, rfl, ?_, ?_⟩
          · refine ⟨fun h => absurd h (by decide), fun h => ?_⟩
            obtain ⟨_, _, _, _, _, g5, _⟩ := h; simp [g5] at hd
          · refine Below.is_ext ?_
            repeat (first | with_reducible exact Below.rf _ | with_reducible exact World.below_ext _ _ | with_reducible refine Below.ex ?_ _ | with_reducible refine Below.al ?_ _ | with_reducible refine Below.setCell ?_ (by simp) _ | with_reducible refine Below.drew ?_)
        · rcases Bool.eq_false_or_eq_true (decide (c < 0)) with e1 | e1
          · go_wp2
            first | with_reducible refine wp_region_ext2 (by kernel_rfl) (by kernel_rfl) ?_ | refine wp_region_ext (by kernel_rfl) (by kernel_rfl) ?_
            repeat (go_big_quiet_step ((go_at_call 48; exact Calls.ext_of (width_any _ _ _ _ _ _ _ _ (by omega) hpw))))
            refine wpQuiet_nil ?_
            rintro _ ⟨z, rfl⟩
            go_wp2_with (go_at_call 65; refine (refuse_any _ _ _).mono ?_; rintro e w' ⟨rfl, z, rfl⟩)
            refine bodyPost_ret (v := .agg #[.int .u8 11, .int .i64 (7)]) (by simp [results, Tryf.results46, go_sem, ↓IntWalk.iteOmega]) rfl ⟨11, _, rfl, ?_, ?_⟩
            · refine ⟨fun h => absurd h (by decide), fun h => ?_⟩
              obtain ⟨_, _, _, _, _, _, g6, _⟩ := h; simp at e1; omega
            · refine Below.is_ext ?_
              repeat (first | with_reducible exact Below.rf _ | with_reducible exact World.below_ext _ _ | with_reducible refine Below.ex ?_ _ | with_reducible refine Below.al ?_ _ | with_reducible refine Below.setCell ?_ (by simp) _ | with_reducible refine Below.drew ?_)
          · by_cases e2 : (A - 1) * P + 3 ≤ c
            · go_wp2
              first | with_reducible refine wp_region_ext2 (by kernel_rfl) (by kernel_rfl) ?_ | refine wp_region_ext (by kernel_rfl) (by kernel_rfl) ?_
              repeat (go_big_quiet_step ((go_at_call 48; exact Calls.ext_of (width_any _ _ _ _ _ _ _ _ (by omega) hpw))))
              refine wpQuiet_nil ?_
              rintro _ ⟨z, rfl⟩
              go_wp2_with (go_at_call 65; refine (refuse_any _ _ _).mono ?_; rintro e w' ⟨rfl, z, rfl⟩)
              refine bodyPost_ret (v := .agg #[.int .u8 11, .int .i64 (7)]) (by simp [results, Tryf.results46, go_sem, ↓IntWalk.iteOmega]) rfl ⟨11, _, rfl, ?_, ?_⟩
              · refine ⟨fun h => absurd h (by decide), fun h => ?_⟩
                obtain ⟨_, _, _, _, _, _, g6, _⟩ := h; omega
              · refine Below.is_ext ?_
                repeat (first | with_reducible exact Below.rf _ | with_reducible exact World.below_ext _ _ | with_reducible refine Below.ex ?_ _ | with_reducible refine Below.al ?_ _ | with_reducible refine Below.setCell ?_ (by simp) _ | with_reducible refine Below.drew ?_)
            · go_wp2
              first | with_reducible refine wp_region_ext2 (by kernel_rfl) (by kernel_rfl) ?_ | refine wp_region_ext (by kernel_rfl) (by kernel_rfl) ?_
              repeat (go_big_quiet_step ((go_at_call 48; exact Calls.ext_of (width_any _ _ _ _ _ _ _ _ (by omega) hpw))))
              refine wpQuiet_nil ?_
              rintro _ ⟨z, rfl⟩
              go_wp2_with fail
              refine (validateParking_any A S P D r c pb po n cap px py _ (by omega) (by omega) hpw hn6 hnc ?_ ?_ ?_ ?_ ?_ ?_).mono ?_
              · (first | omega | (simp only [World.size_ext, World.size_alloc, World.size_setCell, World.size_drew, Array.size_append]; done) | (simp only [World.size_ext, World.size_alloc, World.size_setCell, World.size_drew, Array.size_append]; omega))
              · (first | omega | (simp only [World.size_ext, World.size_alloc, World.size_setCell, World.size_drew, Array.size_append]; done) | (simp only [World.size_ext, World.size_alloc, World.size_setCell, World.size_drew, Array.size_append]; omega))
              · simp [go_sem, ↓IntWalk.iteOmega]; exact hg0
              · simp [go_sem, ↓IntWalk.iteOmega]; exact hg1
              · intro i hi; simp [go_sem, ↓IntWalk.iteOmega]; exact hc0 i hi
              · intro i hi; simp [go_sem, ↓IntWalk.iteOmega]; exact hc1 i hi
              rintro e w' ⟨k', o, rfl, hk', z', rfl⟩
              go_wp2
              refine bodyPost_ret (v := .agg #[.int .u8 k', .int .i64 (o)]) (by simp [results, Tryf.results46, go_sem, ↓IntWalk.iteOmega]) rfl ⟨k', _, rfl, ?_, ?_⟩
              · rw [hk']
                simp [robotsOk] at hr
                simp at hd e1
                exact ⟨fun h => ⟨by omega, b1, b2, b3, b4, hd, by omega, h⟩, fun h => h.2.2.2.2.2.2.2⟩
              · refine Below.is_ext ?_
                repeat (first | with_reducible exact Below.rf _ | with_reducible exact World.below_ext _ _ | with_reducible refine Below.ex ?_ _ | with_reducible refine Below.al ?_ _ | with_reducible refine Below.setCell ?_ (by simp) _ | with_reducible refine Below.drew ?_)
end Go.Proofs.Qxb6500715aFmt
