/-
  The model's heap: least.
-/
import Derived.Test.Qxb6500717aGreatMd11
import Derived.Test.Qxb6500717aGreatHx4
namespace Go.Proofs.Qxb6500717aGreat
open Go.RowKit
set_option linter.unusedSimpArgs false
set_option linter.unusedVariables false
set_option maxRecDepth 20000
set_option maxHeartbeats 4000000

def isLeast (H : List Ent) (i : Nat) : Prop := i < H.length ∧ ∀ j, j < H.length → ¬ Lt (at0 H j) (at0 H i)
theorem mleast_any (m b n cap : Nat) (H : List Ent) (w : World) (lt : m < w.heap.size) (c7 : w.cell? ⟨m, 7, none⟩ = some (.slice (some ⟨b, 0, none⟩) n cap)) (hn : 1 ≤ n ∧ n ≤ 1000000) (hL : H.length = n) (hb : HX w b cap H) :
    Calls Tryz.prog 44 #[.pointer (some ⟨m, 0, none⟩)] w fun e w' => (∃ i, e = .returned (.int .i64 ((i : Nat))) ∧ isLeast H i) ∧ ∃ z, w' = w.ext z := by
  have HL0 := hid hL
  have HX0 := hid hb
  have C7 := hid c7
  have lb := hb.lt
  clear hL hb
  go_enter Tryz.func44, Tryz.ntmps44
  go_wp2
  go_loopw [3, 12] (fun y x wr => ∃ (i best : Nat), x = .int .i64 (i) ∧ y = .int .i64 (best) ∧ i ≤ n ∧ best < n ∧ (∀ j, j < i → ¬ Lt (at0 H j) (at0 H best)) ∧ Below w.heap.size w wr) (fun _ x _ => n - (intOf x).toNat)
  case atStart => exact ⟨0, 0, rfl, rfl, by omega, by omega, fun j hj => by omega, Below.rf _⟩
  case round =>
    clear c7
    obtain ⟨i, best, rfl, rfl, hi, hbest, hall, hB⟩ := hrel
    have HA := hid hall
    have HB := hid hB
    have sb := hB.size
    by_cases hlt : i < n
    · obtain ⟨p0, p1, p2, p3, -⟩ := (HX0.out.below hB).at (i := i) (by rw [HL0.out]; exact hlt)
      obtain ⟨q0, q1, q2, q3, -⟩ := (HX0.out.below hB).at (i := best) (by rw [HL0.out]; exact hbest)
      have c7 : wr.cell? ⟨m, 7, none⟩ = _ := (World.cell?_of_block (hB.block m lt)).trans C7.out
      have hlm : m < wr.heap.size := by omega
      have hlb : b < wr.heap.size := by omega
      obtain ⟨x, hx⟩ : ∃ x, at0 H i = x := ⟨_, rfl⟩
      obtain ⟨y, hy⟩ : ∃ y, at0 H best = y := ⟨_, rfl⟩
      rw [hx] at p0 p1 p2 p3
      rw [hy] at q0 q1 q2 q3
      have HXE := hid hx
      have HYE := hid hy
      have hLT : Lt (at0 H i) (at0 H best) ↔ x.1 < y.1 ∨ (x.1 = y.1 ∧ (x.2.1 < y.2.1 ∨ (x.2.1 = y.2.1 ∧ x.2.2.2 < y.2.2.2))) := by rw [hx, hy]; exact Iff.rfl
      have HLT := hid hLT
      clear hall hB hx hy hLT
      rcases Int.lt_trichotomy x.1 y.1 with h1 | h1 | h1
      · have HL := hid (HLT.out.2 (by omega))
        have b1 : decide (x.1 < y.1) = true := decide_eq_true h1
        go_wp2
        go_roundw
        case rel => exact ⟨i + 1, i, by go_num, rfl, by omega, by omega, fun j hj hl => by
          by_cases e : j = i
          · subst e; exact lt_irrefl _ hl
          · exact HA.out j (by omega) (lt_trans hl HL.out), HB.out.trans (by (refine Below.mono (B := (World.heap _).size) ?_ sb; (repeat (first | with_reducible exact Below.rf _ | with_reducible exact World.below_ext _ _ | with_reducible refine Below.ex ?_ _ | with_reducible refine Below.al ?_ _ | with_reducible refine Below.setCell ?_ (by simp) _ | with_reducible refine Below.drew ?_))))⟩
        case measure => simp [intOf]; omega
      · have b1 : decide (x.1 < y.1) = false := decide_eq_false (by omega)
        have b2 : (x.1 == y.1) = true := by simpa using h1
        rcases Int.lt_trichotomy x.2.1 y.2.1 with h2 | h2 | h2
        · have HL := hid (HLT.out.2 (by omega))
          have b3 : decide (x.2.1 < y.2.1) = true := decide_eq_true h2
          clear h1
          go_wp2
          go_roundw
          case rel => exact ⟨i + 1, i, by go_num, rfl, by omega, by omega, fun j hj hl => by
            by_cases e : j = i
            · subst e; exact lt_irrefl _ hl
            · exact HA.out j (by omega) (lt_trans hl HL.out), HB.out.trans (by (refine Below.mono (B := (World.heap _).size) ?_ sb; (repeat (first | with_reducible exact Below.rf _ | with_reducible exact World.below_ext _ _ | with_reducible refine Below.ex ?_ _ | with_reducible refine Below.al ?_ _ | with_reducible refine Below.setCell ?_ (by simp) _ | with_reducible refine Below.drew ?_))))⟩
          case measure => simp [intOf]; omega
        · have b3 : decide (x.2.1 < y.2.1) = false := decide_eq_false (by omega)
          have b4 : (x.2.1 == y.2.1) = true := by simpa using h2
          by_cases h3 : x.2.2.2 < y.2.2.2
          · have HL := hid (HLT.out.2 (by omega))
            have b5 : decide (x.2.2.2 < y.2.2.2) = true := decide_eq_true h3
            clear h1 h2
            go_wp2
            go_roundw
            case rel => exact ⟨i + 1, i, by go_num, rfl, by omega, by omega, fun j hj hl => by
              by_cases e : j = i
              · subst e; exact lt_irrefl _ hl
              · exact HA.out j (by omega) (lt_trans hl HL.out), HB.out.trans (by (refine Below.mono (B := (World.heap _).size) ?_ sb; (repeat (first | with_reducible exact Below.rf _ | with_reducible exact World.below_ext _ _ | with_reducible refine Below.ex ?_ _ | with_reducible refine Below.al ?_ _ | with_reducible refine Below.setCell ?_ (by simp) _ | with_reducible refine Below.drew ?_))))⟩
            case measure => simp [intOf]; omega
          · have HL : Hid (¬ Lt (at0 H i) (at0 H best)) := hid (fun h => absurd (HLT.out.1 h) (by omega))
            have b5 : decide (x.2.2.2 < y.2.2.2) = false := decide_eq_false h3
            clear h1 h2
            go_wp2
            go_roundw
            case rel => exact ⟨i + 1, best, by go_num, rfl, by omega, by omega, fun j hj hl => by
              by_cases e : j = i
              · subst e; exact HL.out hl
              · exact HA.out j (by omega) hl, HB.out.trans (by (refine Below.mono (B := (World.heap _).size) ?_ sb; (repeat (first | with_reducible exact Below.rf _ | with_reducible exact World.below_ext _ _ | with_reducible refine Below.ex ?_ _ | with_reducible refine Below.al ?_ _ | with_reducible refine Below.setCell ?_ (by simp) _ | with_reducible refine Below.drew ?_))))⟩
            case measure => simp [intOf]; omega
        · have HL : Hid (¬ Lt (at0 H i) (at0 H best)) := hid (fun h => absurd (HLT.out.1 h) (by omega))
          have b3 : decide (x.2.1 < y.2.1) = false := decide_eq_false (by omega)
          have b4 : (x.2.1 == y.2.1) = false := by simp; omega
          clear h1
          go_wp2
          go_roundw
          case rel => exact ⟨i + 1, best, by go_num, rfl, by omega, by omega, fun j hj hl => by
            by_cases e : j = i
            · subst e; exact HL.out hl
            · exact HA.out j (by omega) hl, HB.out.trans (by (refine Below.mono (B := (World.heap _).size) ?_ sb; (repeat (first | with_reducible exact Below.rf _ | with_reducible exact World.below_ext _ _ | with_reducible refine Below.ex ?_ _ | with_reducible refine Below.al ?_ _ | with_reducible refine Below.setCell ?_ (by simp) _ | with_reducible refine Below.drew ?_))))⟩
          case measure => simp [intOf]; omega
      · have HL : Hid (¬ Lt (at0 H i) (at0 H best)) := hid (fun h => absurd (HLT.out.1 h) (by omega))
        have b1 : decide (x.1 < y.1) = false := decide_eq_false (by omega)
        have b2 : (x.1 == y.1) = false := by simp; omega
        go_wp2
        go_roundw
        case rel => exact ⟨i + 1, best, by go_num, rfl, by omega, by omega, fun j hj hl => by
          by_cases e : j = i
          · subst e; exact HL.out hl
          · exact HA.out j (by omega) hl, HB.out.trans (by (refine Below.mono (B := (World.heap _).size) ?_ sb; (repeat (first | with_reducible exact Below.rf _ | with_reducible exact World.below_ext _ _ | with_reducible refine Below.ex ?_ _ | with_reducible refine Below.al ?_ _ | with_reducible refine Below.setCell ?_ (by simp) _ | with_reducible refine Below.drew ?_))))⟩
        case measure => simp [intOf]; omega
    · obtain rfl : i = n := by omega
      clear hall hB
      go_wp2
      go_ret
      refine ⟨⟨best, rfl, by rw [HL0.out]; exact hbest, fun j hj => HA.out j (by rw [← HL0.out]; exact hj)⟩, HB.out.is_ext⟩
end Go.Proofs.Qxb6500717aGreat
