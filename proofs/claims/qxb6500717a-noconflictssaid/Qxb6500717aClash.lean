/-
  'clash' answers no.
-/
import Derived.Test.Qxb6500717aNoc4
namespace Go.Proofs.Qxb6500717a
open Go.RowKit
set_option linter.unusedSimpArgs false
set_option linter.unusedVariables false
set_option maxRecDepth 20000
set_option maxHeartbeats 4000000

theorem TabS.atQ_ne {T : TabS} {r : Nat} {t : Int} (h : T.atQ r t ≠ -1) : ∃ tn : Nat, t = tn ∧ T.base ≤ tn ∧ (tn : Int) < 1099511627776 := by
  unfold TabS.atQ at h
  split at h
  · rename_i hh
    obtain ⟨tn, rfl⟩ := Int.eq_ofNat_of_zero_le (show 0 ≤ t by omega)
    exact ⟨tn, rfl, by omega, by omega⟩
  · exact absurd rfl h
theorem TabS.atQ_is {T : TabS} {r t : Nat} (hr : r < T.nr) (h1 : T.base ≤ t) (h2 : (t : Int) < 1099511627776) : T.atQ r t = T.at r t := by
  unfold TabS.atQ
  rw [if_pos ⟨⟨by omega, by omega⟩, by omega, h2⟩]
  rfl
theorem clash_one {T : TabS} (hn : Noc T) {r q : Nat} (hr : r < T.nr) (hq : q < T.nr) (hne : r ≠ q) {t : Int} (h : T.atQ r t ≠ -1) : T.atQ r t ≠ T.atQ q t := by
  obtain ⟨tn, rfl, h1, h2⟩ := TabS.atQ_ne h
  rw [TabS.atQ_is hr h1 h2] at h ⊢
  rw [TabS.atQ_is hq h1 h2]
  exact hn.one r q tn hr hq hne h1 h
theorem clash_two {T : TabS} (hn : Noc T) {r q : Nat} (hr : r < T.nr) (hq : q < T.nr) (hne : r ≠ q) {t : Int} (h : T.atQ r t ≠ -1) (h' : T.atQ r (t + 1) ≠ -1) : ¬ (T.atQ r t = T.atQ q (t + 1) ∧ T.atQ r (t + 1) = T.atQ q t) := by
  obtain ⟨tn, rfl, h1, h2⟩ := TabS.atQ_ne h
  obtain ⟨un, e, h3, h4⟩ := TabS.atQ_ne h'
  obtain rfl : un = tn + 1 := by omega
  rw [e] at h' ⊢
  rw [TabS.atQ_is hr h1 h2] at h ⊢
  rw [TabS.atQ_is hr h3 h4] at h' ⊢
  rw [TabS.atQ_is hq h1 h2, TabS.atQ_is hq h3 h4]
  exact hn.swp r q tn hr hq hne h1 h h'

theorem clash_no (M : TabM) (T : TabS) (lab : Nat → Nat) (t : Int) (w : World) (h : TAt w lab M T) (hn : Noc T) (ht : -10 ≤ t ∧ t ≤ 2000000000000) :
    Calls Try.prog 16 #[.pointer (some ⟨M.t, 0, none⟩), .int .i64 (t)] w fun e w' => e = .returned (.bool false) ∧ ∃ z, w' = w.ext z := by
  have HT := hid h
  have hnr := h.bd.nr
  have HN := hid hn
  clear h hn
  go_enter Try.func16, Try.ntmps16
  go_wp2
  go_loopw [5] (fun x wr => ∃ (r : Nat) (z : World), x = .int .i64 (r) ∧ r ≤ T.nr ∧ wr = w.ext z) (fun x _ => T.nr - (intOf x).toNat)
  case atStart => exact ⟨0, { w with heap := #[] }, rfl, by omega, by simp [World.ext]⟩
  case round =>
    obtain ⟨r, z, rfl, hr, rfl⟩ := hrel
    by_cases hlt : r < T.nr
    · go_wp2_with (first | (go_at_call 28; refine (robots_any M T lab _ (HT.out.below (by (repeat (first | with_reducible exact Below.rf _ | with_reducible exact World.below_ext _ _ | with_reducible refine Below.ex ?_ _ | with_reducible refine Below.al ?_ _ | with_reducible refine Below.setCell ?_ (by simp) _ | with_reducible refine Below.drew ?_))))).mono ?_; rintro e w' ⟨rfl, rfl⟩) | (go_at_call 52; refine (atQ_any M T lab _ _ _ (HT.out.below (by (repeat (first | with_reducible exact Below.rf _ | with_reducible exact World.below_ext _ _ | with_reducible refine Below.ex ?_ _ | with_reducible refine Below.al ?_ _ | with_reducible refine Below.setCell ?_ (by simp) _ | with_reducible refine Below.drew ?_))))).mono ?_; rintro e w' ⟨rfl, z1, rfl⟩))
      go_loopw [6] (fun x wz => ∃ (q : Nat) (z4 : World), x = .int .i64 (q) ∧ r < q ∧ q ≤ T.nr ∧ wz = w.ext z4) (fun x _ => T.nr - (intOf x).toNat)
      case atStart => exact ⟨r + 1, z, by go_num, by omega, by omega, rfl⟩
      case round =>
        clear z
        obtain ⟨q, z3, rfl, hq1, hq2, rfl⟩ := hrel
        by_cases hlt2 : q < T.nr
        · have c1 := clash_one HN.out (t := t) hlt hlt2 (by omega)
          have c2 := clash_two HN.out (t := t) hlt hlt2 (by omega)
          obtain ⟨a0, e0⟩ : ∃ x, T.atQ r t = x := ⟨_, rfl⟩
          obtain ⟨a1, e1⟩ : ∃ x, T.atQ r (t + 1) = x := ⟨_, rfl⟩
          obtain ⟨b0, e2⟩ : ∃ x, T.atQ q t = x := ⟨_, rfl⟩
          obtain ⟨b1, e3⟩ : ∃ x, T.atQ q (t + 1) = x := ⟨_, rfl⟩
          rw [e0, e2] at c1
          rw [e0, e1, e2, e3] at c2
          have G0 := hid (fun w1 (hB : Below w.heap.size w w1) => e0 ▸ atQ_any M T lab r t w1 (HT.out.below hB))
          have G1 := hid (fun w1 (hB : Below w.heap.size w w1) => e1 ▸ atQ_any M T lab r (t + 1) w1 (HT.out.below hB))
          have G2 := hid (fun w1 (hB : Below w.heap.size w w1) => e2 ▸ atQ_any M T lab q t w1 (HT.out.below hB))
          have G3 := hid (fun w1 (hB : Below w.heap.size w w1) => e3 ▸ atQ_any M T lab q (t + 1) w1 (HT.out.below hB))
          clear e0 e1 e2 e3
          have hrq : (r : Int) ≠ (q : Int) := by omega
          by_cases h0 : a0 = -1
          · have n0 : (a0 != -1) = false := by simp [h0]
            have n0' : (a0 == -1) = true := by simp [h0]
            clear c1 c2 h0
            go_wp2_with (first | (go_at_call 28; refine (robots_any M T lab _ (HT.out.below (by (repeat (first | with_reducible exact Below.rf _ | with_reducible exact World.below_ext _ _ | with_reducible refine Below.ex ?_ _ | with_reducible refine Below.al ?_ _ | with_reducible refine Below.setCell ?_ (by simp) _ | with_reducible refine Below.drew ?_))))).mono ?_; rintro e w' ⟨rfl, rfl⟩) | (go_at_call 52; first | (with_reducible refine (G0.out _ (by (repeat (first | with_reducible exact Below.rf _ | with_reducible exact World.below_ext _ _ | with_reducible refine Below.ex ?_ _ | with_reducible refine Below.al ?_ _ | with_reducible refine Below.setCell ?_ (by simp) _ | with_reducible refine Below.drew ?_)))).mono ?_; rintro e w' ⟨rfl, z4, rfl⟩) | (with_reducible refine (G1.out _ (by (repeat (first | with_reducible exact Below.rf _ | with_reducible exact World.below_ext _ _ | with_reducible refine Below.ex ?_ _ | with_reducible refine Below.al ?_ _ | with_reducible refine Below.setCell ?_ (by simp) _ | with_reducible refine Below.drew ?_)))).mono ?_; rintro e w' ⟨rfl, z5, rfl⟩) | (with_reducible refine (G2.out _ (by (repeat (first | with_reducible exact Below.rf _ | with_reducible exact World.below_ext _ _ | with_reducible refine Below.ex ?_ _ | with_reducible refine Below.al ?_ _ | with_reducible refine Below.setCell ?_ (by simp) _ | with_reducible refine Below.drew ?_)))).mono ?_; rintro e w' ⟨rfl, z6, rfl⟩) | (with_reducible refine (G3.out _ (by (repeat (first | with_reducible exact Below.rf _ | with_reducible exact World.below_ext _ _ | with_reducible refine Below.ex ?_ _ | with_reducible refine Below.al ?_ _ | with_reducible refine Below.setCell ?_ (by simp) _ | with_reducible refine Below.drew ?_)))).mono ?_; rintro e w' ⟨rfl, z7, rfl⟩)))
            go_roundw
            case rel => exact ⟨q + 1, _, by go_num, by omega, by omega, rfl⟩
            case measure => simp [intOf]; omega
          have n0 : (a0 != -1) = true := by simpa using h0
          have n0' : (a0 == -1) = false := by simpa using h0
          have m0 : (a0 == b0) = false := by simpa using c1 h0
          have m0' : (a0 != b0) = true := by simpa using c1 h0
          by_cases h1 : a1 = -1
          · have n1 : (a1 != -1) = false := by simp [h1]
            have n1' : (a1 == -1) = true := by simp [h1]
            clear c1 c2 h0 h1
            go_wp2_with (first | (go_at_call 28; refine (robots_any M T lab _ (HT.out.below (by (repeat (first | with_reducible exact Below.rf _ | with_reducible exact World.below_ext _ _ | with_reducible refine Below.ex ?_ _ | with_reducible refine Below.al ?_ _ | with_reducible refine Below.setCell ?_ (by simp) _ | with_reducible refine Below.drew ?_))))).mono ?_; rintro e w' ⟨rfl, rfl⟩) | (go_at_call 52; first | (with_reducible refine (G0.out _ (by (repeat (first | with_reducible exact Below.rf _ | with_reducible exact World.below_ext _ _ | with_reducible refine Below.ex ?_ _ | with_reducible refine Below.al ?_ _ | with_reducible refine Below.setCell ?_ (by simp) _ | with_reducible refine Below.drew ?_)))).mono ?_; rintro e w' ⟨rfl, z4, rfl⟩) | (with_reducible refine (G1.out _ (by (repeat (first | with_reducible exact Below.rf _ | with_reducible exact World.below_ext _ _ | with_reducible refine Below.ex ?_ _ | with_reducible refine Below.al ?_ _ | with_reducible refine Below.setCell ?_ (by simp) _ | with_reducible refine Below.drew ?_)))).mono ?_; rintro e w' ⟨rfl, z5, rfl⟩) | (with_reducible refine (G2.out _ (by (repeat (first | with_reducible exact Below.rf _ | with_reducible exact World.below_ext _ _ | with_reducible refine Below.ex ?_ _ | with_reducible refine Below.al ?_ _ | with_reducible refine Below.setCell ?_ (by simp) _ | with_reducible refine Below.drew ?_)))).mono ?_; rintro e w' ⟨rfl, z6, rfl⟩) | (with_reducible refine (G3.out _ (by (repeat (first | with_reducible exact Below.rf _ | with_reducible exact World.below_ext _ _ | with_reducible refine Below.ex ?_ _ | with_reducible refine Below.al ?_ _ | with_reducible refine Below.setCell ?_ (by simp) _ | with_reducible refine Below.drew ?_)))).mono ?_; rintro e w' ⟨rfl, z7, rfl⟩)))
            go_roundw
            case rel => exact ⟨q + 1, _, by go_num, by omega, by omega, rfl⟩
            case measure => simp [intOf]; omega
          have n1 : (a1 != -1) = true := by simpa using h1
          have n1' : (a1 == -1) = false := by simpa using h1
          have c3 := c2 h0 h1
          by_cases h2 : a0 = a1
          · have n2 : (a0 != a1) = false := by simp [h2]
            have n2' : (a0 == a1) = true := by simp [h2]
            clear c1 c2 c3 h0 h1 h2
            go_wp2_with (first | (go_at_call 28; refine (robots_any M T lab _ (HT.out.below (by (repeat (first | with_reducible exact Below.rf _ | with_reducible exact World.below_ext _ _ | with_reducible refine Below.ex ?_ _ | with_reducible refine Below.al ?_ _ | with_reducible refine Below.setCell ?_ (by simp) _ | with_reducible refine Below.drew ?_))))).mono ?_; rintro e w' ⟨rfl, rfl⟩) | (go_at_call 52; first | (with_reducible refine (G0.out _ (by (repeat (first | with_reducible exact Below.rf _ | with_reducible exact World.below_ext _ _ | with_reducible refine Below.ex ?_ _ | with_reducible refine Below.al ?_ _ | with_reducible refine Below.setCell ?_ (by simp) _ | with_reducible refine Below.drew ?_)))).mono ?_; rintro e w' ⟨rfl, z4, rfl⟩) | (with_reducible refine (G1.out _ (by (repeat (first | with_reducible exact Below.rf _ | with_reducible exact World.below_ext _ _ | with_reducible refine Below.ex ?_ _ | with_reducible refine Below.al ?_ _ | with_reducible refine Below.setCell ?_ (by simp) _ | with_reducible refine Below.drew ?_)))).mono ?_; rintro e w' ⟨rfl, z5, rfl⟩) | (with_reducible refine (G2.out _ (by (repeat (first | with_reducible exact Below.rf _ | with_reducible exact World.below_ext _ _ | with_reducible refine Below.ex ?_ _ | with_reducible refine Below.al ?_ _ | with_reducible refine Below.setCell ?_ (by simp) _ | with_reducible refine Below.drew ?_)))).mono ?_; rintro e w' ⟨rfl, z6, rfl⟩) | (with_reducible refine (G3.out _ (by (repeat (first | with_reducible exact Below.rf _ | with_reducible exact World.below_ext _ _ | with_reducible refine Below.ex ?_ _ | with_reducible refine Below.al ?_ _ | with_reducible refine Below.setCell ?_ (by simp) _ | with_reducible refine Below.drew ?_)))).mono ?_; rintro e w' ⟨rfl, z7, rfl⟩)))
            go_roundw
            case rel => exact ⟨q + 1, _, by go_num, by omega, by omega, rfl⟩
            case measure => simp [intOf]; omega
          have n2 : (a0 != a1) = true := by simpa using h2
          have n2' : (a0 == a1) = false := by simpa using h2
          by_cases h3 : a0 = b1
          · have h4 : a1 ≠ b0 := fun e => c3 ⟨h3, e⟩
            have n3 : (a0 == b1) = true := by simp [h3]
            have n4 : (a1 == b0) = false := by simpa using h4
            clear c1 c2 c3 h0 h1 h2 h3 h4
            go_wp2_with (first | (go_at_call 28; refine (robots_any M T lab _ (HT.out.below (by (repeat (first | with_reducible exact Below.rf _ | with_reducible exact World.below_ext _ _ | with_reducible refine Below.ex ?_ _ | with_reducible refine Below.al ?_ _ | with_reducible refine Below.setCell ?_ (by simp) _ | with_reducible refine Below.drew ?_))))).mono ?_; rintro e w' ⟨rfl, rfl⟩) | (go_at_call 52; first | (with_reducible refine (G0.out _ (by (repeat (first | with_reducible exact Below.rf _ | with_reducible exact World.below_ext _ _ | with_reducible refine Below.ex ?_ _ | with_reducible refine Below.al ?_ _ | with_reducible refine Below.setCell ?_ (by simp) _ | with_reducible refine Below.drew ?_)))).mono ?_; rintro e w' ⟨rfl, z4, rfl⟩) | (with_reducible refine (G1.out _ (by (repeat (first | with_reducible exact Below.rf _ | with_reducible exact World.below_ext _ _ | with_reducible refine Below.ex ?_ _ | with_reducible refine Below.al ?_ _ | with_reducible refine Below.setCell ?_ (by simp) _ | with_reducible refine Below.drew ?_)))).mono ?_; rintro e w' ⟨rfl, z5, rfl⟩) | (with_reducible refine (G2.out _ (by (repeat (first | with_reducible exact Below.rf _ | with_reducible exact World.below_ext _ _ | with_reducible refine Below.ex ?_ _ | with_reducible refine Below.al ?_ _ | with_reducible refine Below.setCell ?_ (by simp) _ | with_reducible refine Below.drew ?_)))).mono ?_; rintro e w' ⟨rfl, z6, rfl⟩) | (with_reducible refine (G3.out _ (by (repeat (first | with_reducible exact Below.rf _ | with_reducible exact World.below_ext _ _ | with_reducible refine Below.ex ?_ _ | with_reducible refine Below.al ?_ _ | with_reducible refine Below.setCell ?_ (by simp) _ | with_reducible refine Below.drew ?_)))).mono ?_; rintro e w' ⟨rfl, z7, rfl⟩)))
            go_roundw
            case rel => exact ⟨q + 1, _, by go_num, by omega, by omega, rfl⟩
            case measure => simp [intOf]; omega
          · have n3 : (a0 == b1) = false := by simpa using h3
            clear c1 c2 c3 h0 h1 h2 h3
            go_wp2_with (first | (go_at_call 28; refine (robots_any M T lab _ (HT.out.below (by (repeat (first | with_reducible exact Below.rf _ | with_reducible exact World.below_ext _ _ | with_reducible refine Below.ex ?_ _ | with_reducible refine Below.al ?_ _ | with_reducible refine Below.setCell ?_ (by simp) _ | with_reducible refine Below.drew ?_))))).mono ?_; rintro e w' ⟨rfl, rfl⟩) | (go_at_call 52; first | (with_reducible refine (G0.out _ (by (repeat (first | with_reducible exact Below.rf _ | with_reducible exact World.below_ext _ _ | with_reducible refine Below.ex ?_ _ | with_reducible refine Below.al ?_ _ | with_reducible refine Below.setCell ?_ (by simp) _ | with_reducible refine Below.drew ?_)))).mono ?_; rintro e w' ⟨rfl, z4, rfl⟩) | (with_reducible refine (G1.out _ (by (repeat (first | with_reducible exact Below.rf _ | with_reducible exact World.below_ext _ _ | with_reducible refine Below.ex ?_ _ | with_reducible refine Below.al ?_ _ | with_reducible refine Below.setCell ?_ (by simp) _ | with_reducible refine Below.drew ?_)))).mono ?_; rintro e w' ⟨rfl, z5, rfl⟩) | (with_reducible refine (G2.out _ (by (repeat (first | with_reducible exact Below.rf _ | with_reducible exact World.below_ext _ _ | with_reducible refine Below.ex ?_ _ | with_reducible refine Below.al ?_ _ | with_reducible refine Below.setCell ?_ (by simp) _ | with_reducible refine Below.drew ?_)))).mono ?_; rintro e w' ⟨rfl, z6, rfl⟩) | (with_reducible refine (G3.out _ (by (repeat (first | with_reducible exact Below.rf _ | with_reducible exact World.below_ext _ _ | with_reducible refine Below.ex ?_ _ | with_reducible refine Below.al ?_ _ | with_reducible refine Below.setCell ?_ (by simp) _ | with_reducible refine Below.drew ?_)))).mono ?_; rintro e w' ⟨rfl, z7, rfl⟩)))
            go_roundw
            case rel => exact ⟨q + 1, _, by go_num, by omega, by omega, rfl⟩
            case measure => simp [intOf]; omega
        · go_wp2_with (first | (go_at_call 28; refine (robots_any M T lab _ (HT.out.below (by (repeat (first | with_reducible exact Below.rf _ | with_reducible exact World.below_ext _ _ | with_reducible refine Below.ex ?_ _ | with_reducible refine Below.al ?_ _ | with_reducible refine Below.setCell ?_ (by simp) _ | with_reducible refine Below.drew ?_))))).mono ?_; rintro e w' ⟨rfl, rfl⟩) | (go_at_call 52; refine (atQ_any M T lab _ _ _ (HT.out.below (by (repeat (first | with_reducible exact Below.rf _ | with_reducible exact World.below_ext _ _ | with_reducible refine Below.ex ?_ _ | with_reducible refine Below.al ?_ _ | with_reducible refine Below.setCell ?_ (by simp) _ | with_reducible refine Below.drew ?_))))).mono ?_; rintro e w' ⟨rfl, z1, rfl⟩))
          go_roundw
          case rel => exact ⟨r + 1, _, by go_num, by omega, rfl⟩
          case measure => simp [intOf]; omega
    · go_wp2_with (first | (go_at_call 28; refine (robots_any M T lab _ (HT.out.below (by (repeat (first | with_reducible exact Below.rf _ | with_reducible exact World.below_ext _ _ | with_reducible refine Below.ex ?_ _ | with_reducible refine Below.al ?_ _ | with_reducible refine Below.setCell ?_ (by simp) _ | with_reducible refine Below.drew ?_))))).mono ?_; rintro e w' ⟨rfl, rfl⟩) | (go_at_call 52; refine (atQ_any M T lab _ _ _ (HT.out.below (by (repeat (first | with_reducible exact Below.rf _ | with_reducible exact World.below_ext _ _ | with_reducible refine Below.ex ?_ _ | with_reducible refine Below.al ?_ _ | with_reducible refine Below.setCell ?_ (by simp) _ | with_reducible refine Below.drew ?_))))).mono ?_; rintro e w' ⟨rfl, z1, rfl⟩))
      go_ret
      exact ⟨rfl, _, rfl⟩
end Go.Proofs.Qxb6500717a
