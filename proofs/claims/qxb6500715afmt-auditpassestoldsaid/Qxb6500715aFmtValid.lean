/-
  bounds, validateParking, Validate: a layout is accepted just if it is valid.
-/
import Derived.Test.Qxb6500715aFmtLeaf
import Derived.Laws.CopyOwn
namespace Go.Proofs.Qxb6500715aFmt
open Go.RowKit
set_option linter.unusedSimpArgs false
set_option linter.unusedVariables false

theorem bounds_any (A S P D r c : Int) (pk : Value) (w : World)  :
    Calls Tryf.prog 69 #[.agg #[.int .i64 A, .int .i64 S, .int .i64 P, .int .i64 D, .int .i64 r, .int .i64 c, pk]] w fun e w' =>
      e = .returned (.agg #[.int .i64 (A), .int .i64 (1), .int .i64 (8), .int .u8 7, .int .i64 (2), .int .i64 (S), .int .i64 (1), .int .i64 (12), .int .u8 8, .int .i64 (3),
        .int .i64 (P), .int .i64 (2), .int .i64 (3), .int .u8 9, .int .i64 (4), .int .i64 (D), .int .i64 (1), .int .i64 (2), .int .u8 10, .int .i64 (5)]) ∧ ∃ z, w' = w.ext z := by
  go_enter Tryf.func69, Tryf.ntmps69
  go_wp2_with (refine wpList_store_row rfl 124 _ _ rfl _ _ rfl rfl _ _ (heap_alloc2_new _ _ _) (by kernel_rfl) (by kernel_rfl) (by kernel_rfl) ?_)
  exact bodyPost_ret (results_cell_row rfl _ _ _ _ _ _ _ rfl (setRow_heap _ _ _ _ _ _ (heap_alloc2_new _ _ _)) Tryf.underlying124 rfl (by kernel_rfl)) rfl
    ⟨rfl, (below_setRow (((Below.rf _).al _).al _) (Nat.le_succ _) _).is_ext⟩

/-- Every bay lies on an apron, no two on one place. -/
def parkOk (A S P : Int) (n : Nat) (px py : Nat → Int) : Prop :=
  (∀ i, i < n → onApron A S P (px i) (py i) = true) ∧ (∀ i j, j < i → i < n → ¬ (px j = px i ∧ py j = py i))

theorem onApron_inGrid {A S P x y : Int} (h : onApron A S P x y = true) : inGrid A S P x y = true := by
  simp [onApron] at h; exact h.1

theorem upto {p : Nat → Prop} {k : Nat} (h : ∀ i, i < k → p i) (hk : p k) : ∀ i, i < k + 1 → p i := by
  intro i hi
  rcases Nat.lt_or_ge i k with h1 | h1
  · exact h i h1
  · rwa [show i = k by omega]

set_option maxHeartbeats 1000000 in
theorem validateParking_any (A S P D r c : Int) (pb po n cap : Nat) (px py : Nat → Int) (w : World) (hA : -1000000 ≤ A ∧ A ≤ 1000000) (hS : -1000000 ≤ S ∧ S ≤ 1000000) (hp : -1000000 ≤ (A - 1) * P ∧ (A - 1) * P ≤ 1000000)
    (hn6 : n ≤ 1000) (hnc : n ≤ cap) (hw0 : 0 < w.heap.size) (hpb : pb < w.heap.size) (hg0 : w.cell? ⟨0, 0, none⟩ = some (.int .u8 0)) (hg1 : w.cell? ⟨0, 1, none⟩ = some (.int .i64 0))
    (hc0 : ∀ i, i < n → w.cell? ⟨pb, po + i * 2, none⟩ = some (.int .i64 (px i))) (hc1 : ∀ i, i < n → w.cell? ⟨pb, po + i * 2 + 1, none⟩ = some (.int .i64 (py i))) :
    Calls Tryf.prog 70 #[.agg #[.int .i64 A, .int .i64 S, .int .i64 P, .int .i64 D, .int .i64 r, .int .i64 c, .slice (some ⟨pb, po, none⟩) n cap]] w fun e w' =>
      ∃ k o, e = .returned (.agg #[.int .u8 k, .int .i64 (o)]) ∧ (k = 0 ↔ parkOk A S P n px py) ∧ ∃ z, w' = w.ext z := by
  go_enter Tryf.func70, Tryf.ntmps70
  go_wp2
  go_loopw [14] (fun i w' => ∃ k : Nat, k ≤ n ∧ i = .int .i64 (k) ∧ (∀ i, i < k → inGrid A S P (px i) (py i) = true) ∧ ∃ z, w' = ((w.alloc (.cells #[.int .i64 (A), .int .i64 (S), .int .i64 (P), .int .i64 (D), .int .i64 (r), .int .i64 (c), .slice (some ⟨pb, po, none⟩) n cap] 46)).alloc (.cells #[.int .u8 0, .int .i64 0] 36)).ext z) (fun i _ => n - (intOf i).toNat)
  case atStart => exact ⟨0, Nat.zero_le _, rfl, fun i hi => by omega, (Below.rf _).is_ext⟩
  case round =>
    obtain ⟨k, hk, rfl, hin, z, rfl⟩ := hrel
    by_cases hlt : k < n
    · have h0 := hc0 k hlt
      have h1 := hc1 k hlt
      rcases Bool.eq_false_or_eq_true (inGrid A S P (px k) (py k)) with hb | hb
      · go_wp2_with (go_at_call 62; refine (Calls.tf (inGrid_any _ _ _ _ _ _ _ _ _ _ hA hS hp) hb).mono ?_; rintro e w' ⟨rfl, z, rfl⟩)
        go_roundw
        case rel => exact ⟨k + 1, by omega, by go_num, upto hin hb, (((World.below_ext _ _).al _).ex _).is_ext⟩
        case measure => simp [intOf]; omega
      · go_wp2_with (first | (go_at_call 62; refine (Calls.tf (inGrid_any _ _ _ _ _ _ _ _ _ _ hA hS hp) hb).mono ?_; rintro e w' ⟨rfl, z, rfl⟩) | (go_at_call 45; refine (bayOffset_any _ _ (by omega)).mono ?_; rintro e w' ⟨rfl, z, rfl⟩) | (go_at_call 65; refine (refuse_any _ _ _).mono ?_; rintro e w' ⟨rfl, z, rfl⟩))
        refine bodyPost_ret (v := .agg #[.int .u8 12, .int .i64 ((9 + 2 * (k : Int)))]) (by simp [results, Tryf.results70, go_sem, ↓IntWalk.iteOmega]) rfl ⟨12, _, rfl, ?_, ?_⟩
        · refine ⟨fun h => absurd h (by decide), fun h => ?_⟩
          have := onApron_inGrid (h.1 k hlt)
          rw [hb] at this; cases this
        · refine Below.is_ext ?_
          repeat (first | with_reducible exact Below.rf _ | with_reducible exact World.below_ext _ _ | with_reducible refine Below.ex ?_ _ | with_reducible refine Below.al ?_ _ | with_reducible refine Below.setCell ?_ (by simp) _ | with_reducible refine Below.drew ?_)
    · have hin2 : ∀ i, i < n → inGrid A S P (px i) (py i) = true := fun i hi => hin i (by omega)
      clear hin
      go_wp2
      go_loopw [30] (fun i w' => ∃ k : Nat, k ≤ n ∧ i = .int .i64 (k) ∧ (∀ i, i < k → onApron A S P (px i) (py i) = true) ∧ ∃ z, w' = ((w.alloc (.cells #[.int .i64 (A), .int .i64 (S), .int .i64 (P), .int .i64 (D), .int .i64 (r), .int .i64 (c), .slice (some ⟨pb, po, none⟩) n cap] 46)).alloc (.cells #[.int .u8 0, .int .i64 0] 36)).ext z) (fun i _ => n - (intOf i).toNat)
      case atStart => exact ⟨0, Nat.zero_le _, rfl, fun i hi => by omega, (World.below_ext _ z).is_ext⟩
      case round =>
        obtain ⟨k, hk, rfl, hin, z, rfl⟩ := hrel
        by_cases hlt : k < n
        · have h0 := hc0 k hlt
          have h1 := hc1 k hlt
          rcases Bool.eq_false_or_eq_true (onApron A S P (px k) (py k)) with hb | hb
          · go_wp2_with (go_at_call 79; refine (Calls.tf (onApron_any _ _ _ _ _ _ _ _ _ _ hA hS hp) hb).mono ?_; rintro e w' ⟨rfl, z, rfl⟩)
            go_roundw
            case rel => exact ⟨k + 1, by omega, by go_num, upto hin hb, (((World.below_ext _ _).al _).ex _).is_ext⟩
            case measure => simp [intOf]; omega
          · go_wp2_with (first | (go_at_call 79; refine (Calls.tf (onApron_any _ _ _ _ _ _ _ _ _ _ hA hS hp) hb).mono ?_; rintro e w' ⟨rfl, z, rfl⟩) | (go_at_call 45; refine (bayOffset_any _ _ (by omega)).mono ?_; rintro e w' ⟨rfl, z, rfl⟩) | (go_at_call 65; refine (refuse_any _ _ _).mono ?_; rintro e w' ⟨rfl, z, rfl⟩))
            refine bodyPost_ret (v := .agg #[.int .u8 13, .int .i64 ((9 + 2 * (k : Int)))]) (by simp [results, Tryf.results70, go_sem, ↓IntWalk.iteOmega]) rfl ⟨13, _, rfl, ?_, ?_⟩
            · refine ⟨fun h => absurd h (by decide), fun h => ?_⟩
              have := h.1 k hlt
              rw [hb] at this; cases this
            · refine Below.is_ext ?_
              repeat (first | with_reducible exact Below.rf _ | with_reducible exact World.below_ext _ _ | with_reducible refine Below.ex ?_ _ | with_reducible refine Below.al ?_ _ | with_reducible refine Below.setCell ?_ (by simp) _ | with_reducible refine Below.drew ?_)
        · have hin3 : ∀ i, i < n → onApron A S P (px i) (py i) = true := fun i hi => hin i (by omega)
          clear hin hin2
          go_wp2
          go_loopw [46] (fun i w' => ∃ k : Nat, k ≤ n ∧ i = .int .i64 (k) ∧ (∀ i, i < k → ∀ j, j < i → ¬ (px j = px i ∧ py j = py i)) ∧ ∃ z, w' = ((w.alloc (.cells #[.int .i64 (A), .int .i64 (S), .int .i64 (P), .int .i64 (D), .int .i64 (r), .int .i64 (c), .slice (some ⟨pb, po, none⟩) n cap] 46)).alloc (.cells #[.int .u8 0, .int .i64 0] 36)).ext z) (fun i _ => n - (intOf i).toNat)
          case atStart => exact ⟨0, Nat.zero_le _, rfl, fun i hi => by omega, (World.below_ext _ z).is_ext⟩
          case round =>
            obtain ⟨k, hk, rfl, hin, z, rfl⟩ := hrel
            by_cases hlt : k < n
            · have h0 := hc0 k hlt
              have h1 := hc1 k hlt
              go_wp2
              go_loopw [56] (fun i w' => ∃ m : Nat, m ≤ k ∧ i = .int .i64 (m) ∧ (∀ j, j < m → ¬ (px j = px k ∧ py j = py k)) ∧ ∃ z', w' = ((((w.alloc (.cells #[.int .i64 (A), .int .i64 (S), .int .i64 (P), .int .i64 (D), .int .i64 (r), .int .i64 (c), .slice (some ⟨pb, po, none⟩) n cap] 46)).alloc (.cells #[.int .u8 0, .int .i64 0] 36)).ext z).alloc (.cells #[.int .i64 (px k), .int .i64 (py k)] 43)).ext z') (fun i _ => k - (intOf i).toNat)
              case atStart => exact ⟨0, Nat.zero_le _, rfl, fun i hi => by omega, (Below.rf _).is_ext⟩
              case round =>
                obtain ⟨m, hm, rfl, hno, z', rfl⟩ := hrel
                by_cases hlm : m < k
                · have g0 := hc0 m (by omega)
                  have g1 := hc1 m (by omega)
                  rcases Bool.eq_false_or_eq_true (px m == px k) with e1 | e1
                  · rcases Bool.eq_false_or_eq_true (py m == py k) with e2 | e2
                    · go_wp2_with (first | (go_at_call 45; refine (bayOffset_any _ _ (by omega)).mono ?_; rintro e w' ⟨rfl, z, rfl⟩) | (go_at_call 65; refine (refuse_any _ _ _).mono ?_; rintro e w' ⟨rfl, z, rfl⟩))
                      refine bodyPost_ret (v := .agg #[.int .u8 14, .int .i64 (9 + 2 * (k : Int))]) (by simp [results, Tryf.results70, go_sem, ↓IntWalk.iteOmega]) rfl ⟨14, _, rfl, ?_, ?_⟩
                      · exact ⟨fun h => absurd h (by decide), fun h => absurd ⟨eq_of_beq e1, eq_of_beq e2⟩ (h.2 k m hlm hlt)⟩
                      · refine Below.is_ext ?_
                        repeat (first | with_reducible exact Below.rf _ | with_reducible exact World.below_ext _ _ | with_reducible refine Below.ex ?_ _ | with_reducible refine Below.al ?_ _ | with_reducible refine Below.setCell ?_ (by simp) _ | with_reducible refine Below.drew ?_)
                    · go_wp2
                      go_roundw
                      case rel => exact ⟨m + 1, by omega, by go_num, upto hno (fun h => by simp [h.2] at e2), ((World.below_ext _ _).al _).is_ext⟩
                      case measure => simp [intOf]; omega
                  · go_wp2
                    go_roundw
                    case rel => exact ⟨m + 1, by omega, by go_num, upto hno (fun h => by simp [h.1] at e1), ((World.below_ext _ _).al _).is_ext⟩
                    case measure => simp [intOf]; omega
                · go_wp2
                  go_roundw
                  case rel => exact ⟨k + 1, by omega, by go_num, upto hin (fun j hj => hno j (by omega)), (((World.below_ext _ _).al _).ex _).is_ext⟩
                  case measure => simp [intOf]; omega
            · go_wp2
              refine bodyPost_ret (v := .agg #[.int .u8 0, .int .i64 (0)]) (by simp [results, Tryf.results70, go_sem, ↓IntWalk.iteOmega]) rfl ⟨0, _, rfl, ?_, ?_⟩
              · exact ⟨fun _ => ⟨hin3, fun i j hj hi => hin i (by omega) j hj⟩, fun _ => rfl⟩
              · refine Below.is_ext ?_
                repeat (first | with_reducible exact Below.rf _ | with_reducible exact World.below_ext _ _ | with_reducible refine Below.ex ?_ _ | with_reducible refine Below.al ?_ _ | with_reducible refine Below.setCell ?_ (by simp) _ | with_reducible refine Below.drew ?_)

/-- A layout within the limits, its depot on the front cross aisle, its bays sound. -/
def layOk (A S P D r c : Int) (n : Nat) (px py : Nat → Int) : Prop :=
  (1 ≤ n ∧ n ≤ 6) ∧ (1 ≤ A ∧ A ≤ 8) ∧ (1 ≤ S ∧ S ≤ 12) ∧ (2 ≤ P ∧ P ≤ 3) ∧ (1 ≤ D ∧ D ≤ 2) ∧ r = 1 ∧ (0 ≤ c ∧ c < (A - 1) * P + 3) ∧ parkOk A S P n px py

end Go.Proofs.Qxb6500715aFmt
