/-
  The model: FreeFrom, freeCell, its small answers.
-/
import Derived.Test.Qxb6500717aGreatMd4
namespace Go.Proofs.Qxb6500717aGreat
open Go.RowKit
set_option linter.unusedSimpArgs false
set_option linter.unusedVariables false
set_option maxRecDepth 20000
set_option maxHeartbeats 4000000

theorem mlater_ext (m : Nat) (S : MdS) (r : Nat) (c t : Int) (w : World) (h : MdR w m S) : Calls Tryz.prog 80 #[.pointer (some ⟨m, 0, none⟩), .int .i64 (r), .int .i64 (c), .int .i64 (t)] w fun e w' => e = .returned (.bool (S.later r c t)) ∧ ∃ z, w' = w.ext z := (mlater_any m S r c t w h).mono (fun e w' hh => ⟨hh.1, hh.2.is_ext⟩)
/-- Is one of the robots from k on, n of them, but r, on the cell at or behind t? -/
def MdS.busyN (S : MdS) (r c t : Int) : Nat → Nat → Bool
  | _, 0 => false
  | k, n + 1 => (decide ((k : Int) ≠ r) && S.later k c t) || S.busyN r c t (k + 1) n
def MdS.freeF (S : MdS) (r c t : Int) : Bool := !(S.busyN r c t 0 S.nr)
theorem mfreeF_any (m : Nat) (S : MdS) (r c t : Int) (w : World) (h : MdR w m S) : Calls Tryz.prog 57 #[.pointer (some ⟨m, 0, none⟩), .int .i64 (r), .int .i64 (c), .int .i64 (t)] w fun e w' => e = .returned (.bool (S.freeF r c t)) ∧ ∃ z, w' = w.ext z := by
  have HH := hid h
  have hnr := h.bn.1
  have c2 := h.c2
  have lt := h.lt
  obtain ⟨res, hres⟩ : ∃ x, S.busyN r c t 0 S.nr = x := ⟨_, rfl⟩
  unfold MdS.freeF
  rw [hres]
  have HRES := hid hres
  clear h hres
  go_enter Tryz.func57, Tryz.ntmps57
  go_wp2
  go_loopw [9] (fun x wr => ∃ (k : Nat) (z : World), x = .int .i64 (k) ∧ k ≤ S.nr ∧ S.busyN r c t k (S.nr - k) = res ∧ wr = w.ext z) (fun x _ => S.nr - (intOf x).toNat)
  case atStart => exact ⟨0, { w with heap := #[] }, rfl, by omega, HRES.out, by simp [World.ext]⟩
  case round =>
    obtain ⟨k, z, rfl, hk, heq, rfl⟩ := hrel
    by_cases hlt : k < S.nr
    · rw [show S.nr - k = S.nr - (k + 1) + 1 by omega] at heq
      simp only [MdS.busyN] at heq
      by_cases h1 : (k : Int) = r
      · have n1 : ((k : Int) != r) = false := by simp [h1]
        have n1' : ((k : Int) == r) = true := by simp [h1]
        rw [show decide ((k : Int) ≠ r) = false by simp [h1], Bool.false_and, Bool.false_or] at heq
        have HE := hid heq
        clear heq h1
        go_wp2
        go_roundw
        case rel => exact ⟨k + 1, _, by go_num, by omega, HE.out, rfl⟩
        case measure => simp [intOf]; omega
      · have n1 : ((k : Int) != r) = true := by simpa using h1
        have n1' : ((k : Int) == r) = false := by simpa using h1
        rw [show decide ((k : Int) ≠ r) = true by simp [h1], Bool.true_and] at heq
        obtain ⟨b, hb⟩ : ∃ b, S.later k c t = b := ⟨_, rfl⟩
        have LA := hid (fun w1 (hB : Below w.heap.size w w1) => hb ▸ mlater_ext m S k c t w1 (HH.out.below hB))
        rw [hb] at heq
        clear hb h1
        cases b with
        | true =>
          rw [Bool.true_or] at heq
          have HE := hid heq
          clear heq
          go_wp2_with (go_at_call 80; refine (LA.out _ (by (repeat (first | with_reducible exact Below.rf _ | with_reducible exact World.below_ext _ _ | with_reducible refine Below.ex ?_ _ | with_reducible refine Below.al ?_ _ | with_reducible refine Below.setCell ?_ (by simp) _ | with_reducible refine Below.drew ?_)))).mono ?_; rintro e w' ⟨rfl, z2, rfl⟩)
          go_ret
          exact ⟨ret_bool (by rw [← HE.out]; rfl), _, rfl⟩
        | false =>
          rw [Bool.false_or] at heq
          have HE := hid heq
          clear heq
          go_wp2_with (go_at_call 80; refine (LA.out _ (by (repeat (first | with_reducible exact Below.rf _ | with_reducible exact World.below_ext _ _ | with_reducible refine Below.ex ?_ _ | with_reducible refine Below.al ?_ _ | with_reducible refine Below.setCell ?_ (by simp) _ | with_reducible refine Below.drew ?_)))).mono ?_; rintro e w' ⟨rfl, z2, rfl⟩)
          go_roundw
          case rel => exact ⟨k + 1, _, by go_num, by omega, HE.out, rfl⟩
          case measure => simp [intOf]; omega
    · rw [show S.nr - k = 0 by omega] at heq
      simp only [MdS.busyN] at heq
      have HE := hid heq
      clear heq
      go_wp2
      go_ret
      exact ⟨ret_bool (by rw [← HE.out]; rfl), _, rfl⟩

def MdS.freeC (S : MdS) (r c t : Int) : Bool :=
  if (decide (0 ≤ r) && decide (r < (S.nr : Int))) = true ∧ (decide (0 ≤ c) && decide (c < (S.nc : Int))) = true ∧ (decide ((S.base : Int) ≤ t) && decide (t < 1099511627776)) = true then (S.hold c t == -1) || (S.hold c t == r) else false
theorem mfreeC_any (m : Nat) (S : MdS) (r c t : Int) (w : World) (h : MdR w m S) : Calls Tryz.prog 56 #[.pointer (some ⟨m, 0, none⟩), .int .i64 (r), .int .i64 (c), .int .i64 (t)] w fun e w' => e = .returned (.bool (S.freeC r c t)) ∧ ∃ z, w' = w.ext z := by
  have VR := hid (mrobot_any m S r w h)
  have VC := hid (mcell_any m S c w h)
  have VA := hid (mask_any m S t w h)
  have HO := hid (mhold_ext m S c t w h)
  unfold MdS.freeC
  generalize (decide (0 ≤ r) && decide (r < (S.nr : Int))) = x at *
  generalize (decide (0 ≤ c) && decide (c < (S.nc : Int))) = y at *
  generalize (decide ((S.base : Int) ≤ t) && decide (t < 1099511627776)) = v at *
  generalize S.hold c t = ho at *
  clear h
  cases x with
  | false =>
    rw [if_neg (fun h => by cases h.1)]
    go_enter Tryz.func56, Tryz.ntmps56
    go_wp2_with (first | (go_at_call 49; refine VR.out.mono ?_; rintro e w ⟨rfl, rfl⟩) | (go_at_call 51; refine VC.out.mono ?_; rintro e w ⟨rfl, rfl⟩) | (go_at_call 52; refine VA.out.mono ?_; rintro e w ⟨rfl, rfl⟩) | (go_at_call 53; refine HO.out.mono ?_; rintro e w' ⟨rfl, z1, rfl⟩))
    go_ret
    exact ⟨rfl, (Below.rf _).is_ext⟩
  | true =>
    cases y with
    | false =>
      rw [if_neg (fun h => by cases h.2.1)]
      go_enter Tryz.func56, Tryz.ntmps56
      go_wp2_with (first | (go_at_call 49; refine VR.out.mono ?_; rintro e w ⟨rfl, rfl⟩) | (go_at_call 51; refine VC.out.mono ?_; rintro e w ⟨rfl, rfl⟩) | (go_at_call 52; refine VA.out.mono ?_; rintro e w ⟨rfl, rfl⟩) | (go_at_call 53; refine HO.out.mono ?_; rintro e w' ⟨rfl, z1, rfl⟩))
      go_ret
      exact ⟨rfl, (Below.rf _).is_ext⟩
    | true =>
      cases v with
      | false =>
        rw [if_neg (fun h => by cases h.2.2)]
        go_enter Tryz.func56, Tryz.ntmps56
        go_wp2_with (first | (go_at_call 49; refine VR.out.mono ?_; rintro e w ⟨rfl, rfl⟩) | (go_at_call 51; refine VC.out.mono ?_; rintro e w ⟨rfl, rfl⟩) | (go_at_call 52; refine VA.out.mono ?_; rintro e w ⟨rfl, rfl⟩) | (go_at_call 53; refine HO.out.mono ?_; rintro e w' ⟨rfl, z1, rfl⟩))
        go_ret
        exact ⟨rfl, (Below.rf _).is_ext⟩
      | true =>
        rw [if_pos ⟨rfl, rfl, rfl⟩]
        by_cases h1 : ho = -1
        · have b1 : (ho == -1) = true := by simp [h1]
          rw [b1, Bool.true_or]
          clear h1
          go_enter Tryz.func56, Tryz.ntmps56
          go_wp2_with (first | (go_at_call 49; refine VR.out.mono ?_; rintro e w ⟨rfl, rfl⟩) | (go_at_call 51; refine VC.out.mono ?_; rintro e w ⟨rfl, rfl⟩) | (go_at_call 52; refine VA.out.mono ?_; rintro e w ⟨rfl, rfl⟩) | (go_at_call 53; refine HO.out.mono ?_; rintro e w' ⟨rfl, z1, rfl⟩))
          go_ret
          exact ⟨rfl, _, rfl⟩
        · have b1 : (ho == -1) = false := by simpa using h1
          rw [b1, Bool.false_or]
          generalize hb2 : (ho == r) = b2
          clear h1
          go_enter Tryz.func56, Tryz.ntmps56
          go_wp2_with (first | (go_at_call 49; refine VR.out.mono ?_; rintro e w ⟨rfl, rfl⟩) | (go_at_call 51; refine VC.out.mono ?_; rintro e w ⟨rfl, rfl⟩) | (go_at_call 52; refine VA.out.mono ?_; rintro e w ⟨rfl, rfl⟩) | (go_at_call 53; refine HO.out.mono ?_; rintro e w' ⟨rfl, z1, rfl⟩))
          go_ret
          exact ⟨rfl, _, rfl⟩
theorem mok_any (v : Value) (hv : ∃ ao n cap, v = .slice ao n cap) (w : World) : Calls Tryz.prog 43 #[v] w fun e w' => e = .returned (.agg #[.int .u8 0, v]) ∧ ∃ z, w' = w.ext z := by
  obtain ⟨ao, n, cap, rfl⟩ := hv
  go_enter Tryz.func43, Tryz.ntmps43
  go_wp2
  refine bodyPost_ret (v := .agg #[.int .u8 0, .slice ao n cap]) (by simp [results, Tryz.results43, go_sem, ↓IntWalk.iteOmega]) rfl ?_
  refine ⟨rfl, Below.is_ext ?_⟩
  (repeat (first | with_reducible exact Below.rf _ | with_reducible exact World.below_ext _ _ | with_reducible refine Below.ex ?_ _ | with_reducible refine Below.al ?_ _ | with_reducible refine Below.setCell ?_ (by simp) _ | with_reducible refine Below.drew ?_))
end Go.Proofs.Qxb6500717aGreat
