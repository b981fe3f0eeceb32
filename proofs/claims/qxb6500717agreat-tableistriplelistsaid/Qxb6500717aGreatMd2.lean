/-
  The model: Holder, SwapAt.
-/
import Derived.Test.Qxb6500717aGreatMd
namespace Go.Proofs.Qxb6500717aGreat
open Go.RowKit
set_option linter.unusedSimpArgs false
set_option linter.unusedVariables false
set_option maxRecDepth 20000
set_option maxHeartbeats 4000000

/-- The first of the robots from k on, n of them, on a cell. -/
def MdS.holdN (S : MdS) (c t : Int) : Nat → Nat → Int
  | _, 0 => -1
  | k, n + 1 => if S.at k t = c then (k : Int) else S.holdN c t (k + 1) n
def MdS.hold (S : MdS) (c t : Int) : Int := S.holdN c t 0 S.nr
theorem mhold_any (m : Nat) (S : MdS) (c t : Int) (w : World) (h : MdR w m S) : Calls Tryz.prog 53 #[.pointer (some ⟨m, 0, none⟩), .int .i64 (c), .int .i64 (t)] w fun e w' => e = .returned (.int .i64 (S.hold c t)) ∧ Below w.heap.size w w' := by
  have HH := hid h
  have hnr := h.bn.1
  obtain ⟨res, hres⟩ : ∃ x, S.hold c t = x := ⟨_, rfl⟩
  rw [hres]
  have HRES := hid hres
  clear h hres
  go_enter Tryz.func53, Tryz.ntmps53
  go_wp2
  go_loopw [7] (fun x wr => ∃ k : Nat, x = .int .i64 (k) ∧ k ≤ S.nr ∧ S.holdN c t k (S.nr - k) = res ∧ Below w.heap.size w wr) (fun x _ => S.nr - (intOf x).toNat)
  case atStart => exact ⟨0, rfl, by omega, HRES.out, Below.rf _⟩
  case round =>
    obtain ⟨k, rfl, hk, heq, hB⟩ := hrel
    have HB := hid hB
    have hR := HH.out.below hB
    have c2 := hR.c2
    have lt := hR.lt
    have sb := hB.size
    by_cases hlt : k < S.nr
    · have AT := hid (mat_any m S k t _ hR)
      rw [show S.nr - k = S.nr - (k + 1) + 1 by omega] at heq
      simp only [MdS.holdN] at heq
      obtain ⟨a, ha⟩ : ∃ x, S.at k t = x := ⟨_, rfl⟩
      rw [ha] at heq AT
      by_cases h1 : a = c
      · have b1 : (a == c) = true := by simp [h1]
        rw [if_pos h1] at heq
        have HE := hid heq
        clear heq h1 hR hB ha
        go_wp2_with (go_at_call 54; refine AT.out.mono ?_; rintro e w2 ⟨rfl, hb2⟩; have HB2 := hid (HB.out.trans (hb2.mono sb)); clear hb2)
        go_ret
        exact ⟨congrArg (fun d : Int => Ending.returned (.int .i64 (d))) HE.out, HB2.out⟩
      · have b1 : (a == c) = false := by simp [h1]
        rw [if_neg h1] at heq
        have HE := hid heq
        clear heq h1 hR hB ha
        go_wp2_with (go_at_call 54; refine AT.out.mono ?_; rintro e w2 ⟨rfl, hb2⟩; have HB2 := hid (HB.out.trans (hb2.mono sb)); clear hb2)
        go_roundw
        case rel => exact ⟨k + 1, by go_num, by omega, HE.out, HB2.out⟩
        case measure => simp [intOf]; omega
    · rw [show S.nr - k = 0 by omega] at heq
      simp only [MdS.holdN] at heq
      have HE := hid heq
      clear heq hR hB
      go_wp2
      go_ret
      exact ⟨congrArg (fun d : Int => Ending.returned (.int .i64 (d))) HE.out, HB.out⟩

/-- Two robots that change places behind tick t. -/
def MdS.swp2 (S : MdS) (t : Int) (r q : Nat) : Bool := decide (r ≠ q) && decide (S.at r t ≠ -1) && decide (S.at r (t + 1) ≠ -1) && decide (S.at r t ≠ S.at r (t + 1)) && decide (S.at q t = S.at r (t + 1)) && decide (S.at q (t + 1) = S.at r t)
def MdS.swpQ (S : MdS) (t : Int) (r : Nat) : Nat → Nat → Bool
  | _, 0 => false
  | k, n + 1 => S.swp2 t r k || S.swpQ t r (k + 1) n
def MdS.swpR (S : MdS) (t : Int) : Nat → Nat → Bool
  | _, 0 => false
  | k, n + 1 => S.swpQ t k 0 S.nr || S.swpR t (k + 1) n
def MdS.swapAt (S : MdS) (t : Int) : Bool := S.swpR t 0 S.nr
theorem mat_ext (m : Nat) (S : MdS) (r : Nat) (t : Int) (w : World) (h : MdR w m S) : Calls Tryz.prog 54 #[.pointer (some ⟨m, 0, none⟩), .int .i64 (r), .int .i64 (t)] w fun e w' => e = .returned (.int .i64 (S.at r t)) ∧ ∃ z, w' = w.ext z := (mat_any m S r t w h).mono (fun e w' hh => ⟨hh.1, hh.2.is_ext⟩)
theorem mhold_ext (m : Nat) (S : MdS) (c t : Int) (w : World) (h : MdR w m S) : Calls Tryz.prog 53 #[.pointer (some ⟨m, 0, none⟩), .int .i64 (c), .int .i64 (t)] w fun e w' => e = .returned (.int .i64 (S.hold c t)) ∧ ∃ z, w' = w.ext z := (mhold_any m S c t w h).mono (fun e w' hh => ⟨hh.1, hh.2.is_ext⟩)
theorem mswap_any (m : Nat) (S : MdS) (t : Int) (w : World) (h : MdR w m S) (ht : -10 ≤ t ∧ t ≤ 2000000000000) : Calls Tryz.prog 79 #[.pointer (some ⟨m, 0, none⟩), .int .i64 (t)] w fun e w' => e = .returned (.bool (S.swapAt t)) ∧ ∃ z, w' = w.ext z := by
  have HH := hid h
  have hnr := h.bn.1
  have c2 := h.c2
  have lt := h.lt
  obtain ⟨res, hres⟩ : ∃ x, S.swapAt t = x := ⟨_, rfl⟩
  rw [hres]
  have HRES := hid hres
  clear h hres
  go_enter Tryz.func79, Tryz.ntmps79
  go_wp2
  go_loopw [5] (fun x wr => ∃ (k : Nat) (z : World), x = .int .i64 (k) ∧ k ≤ S.nr ∧ S.swpR t k (S.nr - k) = res ∧ wr = w.ext z) (fun x _ => S.nr - (intOf x).toNat)
  case atStart => exact ⟨0, { w with heap := #[] }, rfl, by omega, HRES.out, by simp [World.ext]⟩
  case round =>
    obtain ⟨r, z, rfl, hr, heq0, rfl⟩ := hrel
    by_cases hlt : r < S.nr
    · rw [show S.nr - r = S.nr - (r + 1) + 1 by omega] at heq0
      simp only [MdS.swpR] at heq0
      have HE0 := hid heq0
      clear heq0
      go_wp2
      go_loopw [6] (fun x wz => ∃ (q : Nat) (z4 : World), x = .int .i64 (q) ∧ q ≤ S.nr ∧ (S.swpQ t r q (S.nr - q) || S.swpR t (r + 1) (S.nr - (r + 1))) = res ∧ wz = w.ext z4) (fun x _ => S.nr - (intOf x).toNat)
      case atStart => exact ⟨0, z, rfl, by omega, HE0.out, rfl⟩
      case round =>
        clear z
        obtain ⟨q, z3, rfl, hq2, heq, rfl⟩ := hrel
        by_cases hlt2 : q < S.nr
        · rw [show S.nr - q = S.nr - (q + 1) + 1 by omega] at heq
          simp only [MdS.swpQ] at heq
          obtain ⟨a0, e0⟩ : ∃ x, S.at r t = x := ⟨_, rfl⟩
          obtain ⟨a1, e1⟩ : ∃ x, S.at r (t + 1) = x := ⟨_, rfl⟩
          obtain ⟨b0, e2⟩ : ∃ x, S.at q t = x := ⟨_, rfl⟩
          obtain ⟨b1, e3⟩ : ∃ x, S.at q (t + 1) = x := ⟨_, rfl⟩
          have G0 := hid (fun w1 (hB : Below w.heap.size w w1) => e0 ▸ mat_ext m S r t w1 (HH.out.below hB))
          have G1 := hid (fun w1 (hB : Below w.heap.size w w1) => e1 ▸ mat_ext m S r (t + 1) w1 (HH.out.below hB))
          have G2 := hid (fun w1 (hB : Below w.heap.size w w1) => e2 ▸ mat_ext m S q t w1 (HH.out.below hB))
          have G3 := hid (fun w1 (hB : Below w.heap.size w w1) => e3 ▸ mat_ext m S q (t + 1) w1 (HH.out.below hB))
          have E0 := hid e0
          have E1 := hid e1
          have E2 := hid e2
          have E3 := hid e3
          clear e0 e1 e2 e3
          by_cases hrq : r = q
          · have n0 : ((r : Int) != (q : Int)) = false := by simp [hrq]
            have n0' : ((r : Int) == (q : Int)) = true := by simp [hrq]
            have HRQ := hid hrq
            clear hrq
            have hs2 : S.swp2 t r q = false := by unfold MdS.swp2; rw [E0.out, E1.out, E2.out, E3.out]; simp; have hrq2 := HRQ.out; omega
            rw [hs2, Bool.false_or] at heq
            have HE := hid heq
            clear heq hs2
            go_wp2_with (go_at_call 54; first | (with_reducible refine (G0.out _ (by (repeat (first | with_reducible exact Below.rf _ | with_reducible exact World.below_ext _ _ | with_reducible refine Below.ex ?_ _ | with_reducible refine Below.al ?_ _ | with_reducible refine Below.setCell ?_ (by simp) _ | with_reducible refine Below.drew ?_)))).mono ?_; rintro e w' ⟨rfl, z4, rfl⟩) | (with_reducible refine (G1.out _ (by (repeat (first | with_reducible exact Below.rf _ | with_reducible exact World.below_ext _ _ | with_reducible refine Below.ex ?_ _ | with_reducible refine Below.al ?_ _ | with_reducible refine Below.setCell ?_ (by simp) _ | with_reducible refine Below.drew ?_)))).mono ?_; rintro e w' ⟨rfl, z5, rfl⟩) | (with_reducible refine (G2.out _ (by (repeat (first | with_reducible exact Below.rf _ | with_reducible exact World.below_ext _ _ | with_reducible refine Below.ex ?_ _ | with_reducible refine Below.al ?_ _ | with_reducible refine Below.setCell ?_ (by simp) _ | with_reducible refine Below.drew ?_)))).mono ?_; rintro e w' ⟨rfl, z6, rfl⟩) | (with_reducible refine (G3.out _ (by (repeat (first | with_reducible exact Below.rf _ | with_reducible exact World.below_ext _ _ | with_reducible refine Below.ex ?_ _ | with_reducible refine Below.al ?_ _ | with_reducible refine Below.setCell ?_ (by simp) _ | with_reducible refine Below.drew ?_)))).mono ?_; rintro e w' ⟨rfl, z7, rfl⟩))
            go_roundw
            case rel => exact ⟨q + 1, _, by go_num, by omega, HE.out, rfl⟩
            case measure => simp [intOf]; omega
          have n0 : ((r : Int) != (q : Int)) = true := by simp; omega
          have n0' : ((r : Int) == (q : Int)) = false := by simp; omega
          by_cases h0 : a0 = -1
          · have m0 : (a0 != -1) = false := by simp [h0]
            have m0' : (a0 == -1) = true := by simp [h0]
            have hs2 : S.swp2 t r q = false := by unfold MdS.swp2; rw [E0.out, E1.out, E2.out, E3.out]; simp; omega
            rw [hs2, Bool.false_or] at heq
            have HE := hid heq
            clear heq hs2
            go_wp2_with (go_at_call 54; first | (with_reducible refine (G0.out _ (by (repeat (first | with_reducible exact Below.rf _ | with_reducible exact World.below_ext _ _ | with_reducible refine Below.ex ?_ _ | with_reducible refine Below.al ?_ _ | with_reducible refine Below.setCell ?_ (by simp) _ | with_reducible refine Below.drew ?_)))).mono ?_; rintro e w' ⟨rfl, z4, rfl⟩) | (with_reducible refine (G1.out _ (by (repeat (first | with_reducible exact Below.rf _ | with_reducible exact World.below_ext _ _ | with_reducible refine Below.ex ?_ _ | with_reducible refine Below.al ?_ _ | with_reducible refine Below.setCell ?_ (by simp) _ | with_reducible refine Below.drew ?_)))).mono ?_; rintro e w' ⟨rfl, z5, rfl⟩) | (with_reducible refine (G2.out _ (by (repeat (first | with_reducible exact Below.rf _ | with_reducible exact World.below_ext _ _ | with_reducible refine Below.ex ?_ _ | with_reducible refine Below.al ?_ _ | with_reducible refine Below.setCell ?_ (by simp) _ | with_reducible refine Below.drew ?_)))).mono ?_; rintro e w' ⟨rfl, z6, rfl⟩) | (with_reducible refine (G3.out _ (by (repeat (first | with_reducible exact Below.rf _ | with_reducible exact World.below_ext _ _ | with_reducible refine Below.ex ?_ _ | with_reducible refine Below.al ?_ _ | with_reducible refine Below.setCell ?_ (by simp) _ | with_reducible refine Below.drew ?_)))).mono ?_; rintro e w' ⟨rfl, z7, rfl⟩))
            go_roundw
            case rel => exact ⟨q + 1, _, by go_num, by omega, HE.out, rfl⟩
            case measure => simp [intOf]; omega
          have m0 : (a0 != -1) = true := by simpa using h0
          have m0' : (a0 == -1) = false := by simpa using h0
          by_cases h1 : a1 = -1
          · have m1 : (a1 != -1) = false := by simp [h1]
            have m1' : (a1 == -1) = true := by simp [h1]
            have hs2 : S.swp2 t r q = false := by unfold MdS.swp2; rw [E0.out, E1.out, E2.out, E3.out]; simp; omega
            rw [hs2, Bool.false_or] at heq
            have HE := hid heq
            clear heq hs2
            go_wp2_with (go_at_call 54; first | (with_reducible refine (G0.out _ (by (repeat (first | with_reducible exact Below.rf _ | with_reducible exact World.below_ext _ _ | with_reducible refine Below.ex ?_ _ | with_reducible refine Below.al ?_ _ | with_reducible refine Below.setCell ?_ (by simp) _ | with_reducible refine Below.drew ?_)))).mono ?_; rintro e w' ⟨rfl, z4, rfl⟩) | (with_reducible refine (G1.out _ (by (repeat (first | with_reducible exact Below.rf _ | with_reducible exact World.below_ext _ _ | with_reducible refine Below.ex ?_ _ | with_reducible refine Below.al ?_ _ | with_reducible refine Below.setCell ?_ (by simp) _ | with_reducible refine Below.drew ?_)))).mono ?_; rintro e w' ⟨rfl, z5, rfl⟩) | (with_reducible refine (G2.out _ (by (repeat (first | with_reducible exact Below.rf _ | with_reducible exact World.below_ext _ _ | with_reducible refine Below.ex ?_ _ | with_reducible refine Below.al ?_ _ | with_reducible refine Below.setCell ?_ (by simp) _ | with_reducible refine Below.drew ?_)))).mono ?_; rintro e w' ⟨rfl, z6, rfl⟩) | (with_reducible refine (G3.out _ (by (repeat (first | with_reducible exact Below.rf _ | with_reducible exact World.below_ext _ _ | with_reducible refine Below.ex ?_ _ | with_reducible refine Below.al ?_ _ | with_reducible refine Below.setCell ?_ (by simp) _ | with_reducible refine Below.drew ?_)))).mono ?_; rintro e w' ⟨rfl, z7, rfl⟩))
            go_roundw
            case rel => exact ⟨q + 1, _, by go_num, by omega, HE.out, rfl⟩
            case measure => simp [intOf]; omega
          have m1 : (a1 != -1) = true := by simpa using h1
          have m1' : (a1 == -1) = false := by simpa using h1
          by_cases h2 : a0 = a1
          · have m2 : (a0 != a1) = false := by simp [h2]
            have m2' : (a0 == a1) = true := by simp [h2]
            have hs2 : S.swp2 t r q = false := by unfold MdS.swp2; rw [E0.out, E1.out, E2.out, E3.out]; simp; omega
            rw [hs2, Bool.false_or] at heq
            have HE := hid heq
            clear heq hs2
            go_wp2_with (go_at_call 54; first | (with_reducible refine (G0.out _ (by (repeat (first | with_reducible exact Below.rf _ | with_reducible exact World.below_ext _ _ | with_reducible refine Below.ex ?_ _ | with_reducible refine Below.al ?_ _ | with_reducible refine Below.setCell ?_ (by simp) _ | with_reducible refine Below.drew ?_)))).mono ?_; rintro e w' ⟨rfl, z4, rfl⟩) | (with_reducible refine (G1.out _ (by (repeat (first | with_reducible exact Below.rf _ | with_reducible exact World.below_ext _ _ | with_reducible refine Below.ex ?_ _ | with_reducible refine Below.al ?_ _ | with_reducible refine Below.setCell ?_ (by simp) _ | with_reducible refine Below.drew ?_)))).mono ?_; rintro e w' ⟨rfl, z5, rfl⟩) | (with_reducible refine (G2.out _ (by (repeat (first | with_reducible exact Below.rf _ | with_reducible exact World.below_ext _ _ | with_reducible refine Below.ex ?_ _ | with_reducible refine Below.al ?_ _ | with_reducible refine Below.setCell ?_ (by simp) _ | with_reducible refine Below.drew ?_)))).mono ?_; rintro e w' ⟨rfl, z6, rfl⟩) | (with_reducible refine (G3.out _ (by (repeat (first | with_reducible exact Below.rf _ | with_reducible exact World.below_ext _ _ | with_reducible refine Below.ex ?_ _ | with_reducible refine Below.al ?_ _ | with_reducible refine Below.setCell ?_ (by simp) _ | with_reducible refine Below.drew ?_)))).mono ?_; rintro e w' ⟨rfl, z7, rfl⟩))
            go_roundw
            case rel => exact ⟨q + 1, _, by go_num, by omega, HE.out, rfl⟩
            case measure => simp [intOf]; omega
          have m2 : (a0 != a1) = true := by simpa using h2
          have m2' : (a0 == a1) = false := by simpa using h2
          by_cases h3 : b0 = a1
          · have m3 : (b0 == a1) = true := by simp [h3]
            by_cases h4 : b1 = a0
            · have m4 : (b1 == a0) = true := by simp [h4]
              have hs2 : S.swp2 t r q = true := by unfold MdS.swp2; rw [E0.out, E1.out, E2.out, E3.out]; simp; omega
              rw [hs2, Bool.true_or, Bool.true_or] at heq
              have HE := hid heq
              clear heq hs2
              go_wp2_with (go_at_call 54; first | (with_reducible refine (G0.out _ (by (repeat (first | with_reducible exact Below.rf _ | with_reducible exact World.below_ext _ _ | with_reducible refine Below.ex ?_ _ | with_reducible refine Below.al ?_ _ | with_reducible refine Below.setCell ?_ (by simp) _ | with_reducible refine Below.drew ?_)))).mono ?_; rintro e w' ⟨rfl, z4, rfl⟩) | (with_reducible refine (G1.out _ (by (repeat (first | with_reducible exact Below.rf _ | with_reducible exact World.below_ext _ _ | with_reducible refine Below.ex ?_ _ | with_reducible refine Below.al ?_ _ | with_reducible refine Below.setCell ?_ (by simp) _ | with_reducible refine Below.drew ?_)))).mono ?_; rintro e w' ⟨rfl, z5, rfl⟩) | (with_reducible refine (G2.out _ (by (repeat (first | with_reducible exact Below.rf _ | with_reducible exact World.below_ext _ _ | with_reducible refine Below.ex ?_ _ | with_reducible refine Below.al ?_ _ | with_reducible refine Below.setCell ?_ (by simp) _ | with_reducible refine Below.drew ?_)))).mono ?_; rintro e w' ⟨rfl, z6, rfl⟩) | (with_reducible refine (G3.out _ (by (repeat (first | with_reducible exact Below.rf _ | with_reducible exact World.below_ext _ _ | with_reducible refine Below.ex ?_ _ | with_reducible refine Below.al ?_ _ | with_reducible refine Below.setCell ?_ (by simp) _ | with_reducible refine Below.drew ?_)))).mono ?_; rintro e w' ⟨rfl, z7, rfl⟩))
              go_ret
              exact ⟨ret_bool HE.out, _, rfl⟩
            · have m4 : (b1 == a0) = false := by simp [h4]
              have hs2 : S.swp2 t r q = false := by unfold MdS.swp2; rw [E0.out, E1.out, E2.out, E3.out]; simp; omega
              rw [hs2, Bool.false_or] at heq
              have HE := hid heq
              clear heq hs2
              go_wp2_with (go_at_call 54; first | (with_reducible refine (G0.out _ (by (repeat (first | with_reducible exact Below.rf _ | with_reducible exact World.below_ext _ _ | with_reducible refine Below.ex ?_ _ | with_reducible refine Below.al ?_ _ | with_reducible refine Below.setCell ?_ (by simp) _ | with_reducible refine Below.drew ?_)))).mono ?_; rintro e w' ⟨rfl, z4, rfl⟩) | (with_reducible refine (G1.out _ (by (repeat (first | with_reducible exact Below.rf _ | with_reducible exact World.below_ext _ _ | with_reducible refine Below.ex ?_ _ | with_reducible refine Below.al ?_ _ | with_reducible refine Below.setCell ?_ (by simp) _ | with_reducible refine Below.drew ?_)))).mono ?_; rintro e w' ⟨rfl, z5, rfl⟩) | (with_reducible refine (G2.out _ (by (repeat (first | with_reducible exact Below.rf _ | with_reducible exact World.below_ext _ _ | with_reducible refine Below.ex ?_ _ | with_reducible refine Below.al ?_ _ | with_reducible refine Below.setCell ?_ (by simp) _ | with_reducible refine Below.drew ?_)))).mono ?_; rintro e w' ⟨rfl, z6, rfl⟩) | (with_reducible refine (G3.out _ (by (repeat (first | with_reducible exact Below.rf _ | with_reducible exact World.below_ext _ _ | with_reducible refine Below.ex ?_ _ | with_reducible refine Below.al ?_ _ | with_reducible refine Below.setCell ?_ (by simp) _ | with_reducible refine Below.drew ?_)))).mono ?_; rintro e w' ⟨rfl, z7, rfl⟩))
              go_roundw
              case rel => exact ⟨q + 1, _, by go_num, by omega, HE.out, rfl⟩
              case measure => simp [intOf]; omega
          · have m3 : (b0 == a1) = false := by simp [h3]
            have hs2 : S.swp2 t r q = false := by unfold MdS.swp2; rw [E0.out, E1.out, E2.out, E3.out]; simp; omega
            rw [hs2, Bool.false_or] at heq
            have HE := hid heq
            clear heq hs2
            go_wp2_with (go_at_call 54; first | (with_reducible refine (G0.out _ (by (repeat (first | with_reducible exact Below.rf _ | with_reducible exact World.below_ext _ _ | with_reducible refine Below.ex ?_ _ | with_reducible refine Below.al ?_ _ | with_reducible refine Below.setCell ?_ (by simp) _ | with_reducible refine Below.drew ?_)))).mono ?_; rintro e w' ⟨rfl, z4, rfl⟩) | (with_reducible refine (G1.out _ (by (repeat (first | with_reducible exact Below.rf _ | with_reducible exact World.below_ext _ _ | with_reducible refine Below.ex ?_ _ | with_reducible refine Below.al ?_ _ | with_reducible refine Below.setCell ?_ (by simp) _ | with_reducible refine Below.drew ?_)))).mono ?_; rintro e w' ⟨rfl, z5, rfl⟩) | (with_reducible refine (G2.out _ (by (repeat (first | with_reducible exact Below.rf _ | with_reducible exact World.below_ext _ _ | with_reducible refine Below.ex ?_ _ | with_reducible refine Below.al ?_ _ | with_reducible refine Below.setCell ?_ (by simp) _ | with_reducible refine Below.drew ?_)))).mono ?_; rintro e w' ⟨rfl, z6, rfl⟩) | (with_reducible refine (G3.out _ (by (repeat (first | with_reducible exact Below.rf _ | with_reducible exact World.below_ext _ _ | with_reducible refine Below.ex ?_ _ | with_reducible refine Below.al ?_ _ | with_reducible refine Below.setCell ?_ (by simp) _ | with_reducible refine Below.drew ?_)))).mono ?_; rintro e w' ⟨rfl, z7, rfl⟩))
            go_roundw
            case rel => exact ⟨q + 1, _, by go_num, by omega, HE.out, rfl⟩
            case measure => simp [intOf]; omega
        · rw [show S.nr - q = 0 by omega] at heq
          simp only [MdS.swpQ, Bool.false_or] at heq
          have HE := hid heq
          clear heq
          go_wp2
          go_roundw
          case rel => exact ⟨r + 1, _, by go_num, by omega, HE.out, rfl⟩
          case measure => simp [intOf]; omega
    · rw [show S.nr - r = 0 by omega] at heq0
      simp only [MdS.swpR] at heq0
      have HE := hid heq0
      clear heq0
      go_wp2
      go_ret
      exact ⟨ret_bool HE.out, _, rfl⟩
end Go.Proofs.Qxb6500717aGreat
