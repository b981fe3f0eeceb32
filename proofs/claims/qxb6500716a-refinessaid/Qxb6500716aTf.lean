/-
  FreeFrom: the walk.
-/
import Derived.Test.Qxb6500716aTe
namespace Go.Proofs.Qxb6500716a
open Go.RowKit Go.Maps
set_option linter.unusedSimpArgs false
set_option linter.unusedVariables false
set_option maxRecDepth 20000
set_option maxHeartbeats 4000000

def TS.freeFF (T : TS) (r c t : Int) : Nat → Nat → Bool
  | _, 0 => true
  | k, n + 1 => if (k : Int) ≠ r ∧ T.later k c t = true then false else T.freeFF r c t (k + 1) n
/-- No other robot is on the cell at or behind the tick. -/
def TS.freeF (T : TS) (r c t : Int) : Bool := T.rOk r && (T.cOk c && (T.askOk t && T.freeFF r c t 0 T.nr))
theorem freeF_any (M : TM) (T : TS) (lab : Nat → Nat) (r c t : Int) (w : World) (h : TAt w lab M T) :
    Calls Try.prog 58 #[.pointer (some ⟨M.t, 0, none⟩), .int .i64 (r), .int .i64 (c), .int .i64 (t)] w fun e w' => e = .returned (.bool (T.freeF r c t)) ∧ ∃ z, w' = w.ext z := by
  have VR : Hid (Calls Try.prog 78 #[.pointer (some ⟨M.t, 0, none⟩), .int .i64 (r)] w fun e w' => e = .returned (.bool (T.rOk r)) ∧ w' = w) := isRobot_any M T lab r w h
  have VC : Hid (Calls Try.prog 80 #[.pointer (some ⟨M.t, 0, none⟩), .int .i64 (c)] w fun e w' => e = .returned (.bool (T.cOk c)) ∧ w' = w) := isCell_any M T lab c w h
  have VA : Hid (Calls Try.prog 81 #[.pointer (some ⟨M.t, 0, none⟩), .int .i64 (t)] w fun e w' => e = .returned (.bool (T.askOk t)) ∧ w' = w) := askable_any M T lab t w h
  have LT := hid (fun (w' : World) (k : Nat) (hB : Below w.heap.size w w') => later_any M T lab k c t w' (h.below hB))
  have hlt := h.bt.lt
  have c1 := h.c1
  have hnr := h.bd.nr
  unfold TS.freeF
  generalize T.rOk r = x at *
  generalize T.cOk c = y at *
  generalize T.askOk t = z at *
  clear h
  cases x with
  | false =>
    go_enter Try.func58, Try.ntmps58
    go_wp2_with (first | (go_at_call 78; refine VR.out.mono ?_; rintro e w ⟨rfl, rfl⟩) | (go_at_call 80; refine VC.out.mono ?_; rintro e w ⟨rfl, rfl⟩) | (go_at_call 81; refine VA.out.mono ?_; rintro e w ⟨rfl, rfl⟩))
    go_ret
    refine ⟨rfl, Below.is_ext ?_⟩
    (repeat (first | with_reducible exact Below.rf _ | with_reducible exact World.below_ext _ _ | with_reducible refine Below.ex ?_ _ | with_reducible refine Below.al ?_ _ | with_reducible refine Below.setCell ?_ (by simp) _ | with_reducible refine Below.drew ?_))
  | true =>
    cases y with
    | false =>
      go_enter Try.func58, Try.ntmps58
      go_wp2_with (first | (go_at_call 78; refine VR.out.mono ?_; rintro e w ⟨rfl, rfl⟩) | (go_at_call 80; refine VC.out.mono ?_; rintro e w ⟨rfl, rfl⟩) | (go_at_call 81; refine VA.out.mono ?_; rintro e w ⟨rfl, rfl⟩))
      go_ret
      refine ⟨rfl, Below.is_ext ?_⟩
      (repeat (first | with_reducible exact Below.rf _ | with_reducible exact World.below_ext _ _ | with_reducible refine Below.ex ?_ _ | with_reducible refine Below.al ?_ _ | with_reducible refine Below.setCell ?_ (by simp) _ | with_reducible refine Below.drew ?_))
    | true =>
      cases z with
      | false =>
        go_enter Try.func58, Try.ntmps58
        go_wp2_with (first | (go_at_call 78; refine VR.out.mono ?_; rintro e w ⟨rfl, rfl⟩) | (go_at_call 80; refine VC.out.mono ?_; rintro e w ⟨rfl, rfl⟩) | (go_at_call 81; refine VA.out.mono ?_; rintro e w ⟨rfl, rfl⟩))
        go_ret
        refine ⟨rfl, Below.is_ext ?_⟩
        (repeat (first | with_reducible exact Below.rf _ | with_reducible exact World.below_ext _ _ | with_reducible refine Below.ex ?_ _ | with_reducible refine Below.al ?_ _ | with_reducible refine Below.setCell ?_ (by simp) _ | with_reducible refine Below.drew ?_))
      | true =>
        simp only [Bool.true_and]
        obtain ⟨res, hres⟩ : ∃ x, T.freeFF r c t 0 T.nr = x := ⟨_, rfl⟩
        rw [hres]
        have HRES := hid hres
        clear hres
        go_enter Try.func58, Try.ntmps58
        go_wp2_with (first | (go_at_call 78; refine VR.out.mono ?_; rintro e w ⟨rfl, rfl⟩) | (go_at_call 80; refine VC.out.mono ?_; rintro e w ⟨rfl, rfl⟩) | (go_at_call 81; refine VA.out.mono ?_; rintro e w ⟨rfl, rfl⟩))
        go_loopw [9] (fun x wr => ∃ k : Nat, x = .int .i64 (k) ∧ k ≤ T.nr ∧ T.freeFF r c t k (T.nr - k) = res ∧ Below w.heap.size w wr) (fun x _ => T.nr - (intOf x).toNat)
        case atStart => exact ⟨0, rfl, Nat.zero_le _, HRES.out, by (repeat (first | with_reducible exact Below.rf _ | with_reducible exact World.below_ext _ _ | with_reducible refine Below.ex ?_ _ | with_reducible refine Below.al ?_ _ | with_reducible refine Below.setCell ?_ (by simp) _ | with_reducible refine Below.drew ?_))⟩
        case round =>
          obtain ⟨k, rfl, hk, heq, hB⟩ := hrel
          have HB := hid hB
          have c1' : wr.cell? ⟨M.t, 1, none⟩ = some (.int .i64 (T.nr)) := (World.cell?_of_block (hB.block M.t hlt)).trans c1
          have hsz := hB.size
          by_cases hlt2 : k < T.nr
          · have LA := hid (LT.out wr k hB)
            rw [show T.nr - k = (T.nr - (k + 1)) + 1 by omega, TS.freeFF] at heq
            generalize T.later k c t = p at *
            by_cases e1 : (k : Int) = r
            · rw [if_neg (fun h => h.1 e1)] at heq
              have HE := hid heq
              have d1 : ((k : Int) != r) = false := by simp [e1]
              clear hB heq e1
              go_wp2_with (go_at_call 75; refine LA.out.mono ?_; rintro e w' ⟨rfl, z3, rfl⟩)
              go_roundw
              case rel =>
                refine ⟨k + 1, by go_num, by omega, HE.out, ?_⟩
                refine HB.out.trans (Below.mono ?_ HB.out.size)
                (repeat (first | with_reducible exact Below.rf _ | with_reducible exact World.below_ext _ _ | with_reducible refine Below.ex ?_ _ | with_reducible refine Below.al ?_ _ | with_reducible refine Below.setCell ?_ (by simp) _ | with_reducible refine Below.drew ?_))
              case measure => simp [intOf]; omega
            · have d1 : ((k : Int) != r) = true := by simp [e1]
              cases p with
              | true =>
                rw [if_pos ⟨e1, rfl⟩] at heq
                have HE := hid heq
                clear hB heq e1
                go_wp2_with (go_at_call 75; refine LA.out.mono ?_; rintro e w' ⟨rfl, z3, rfl⟩)
                go_ret
                refine ⟨ret_bool HE.out, Below.is_ext ?_⟩
                refine HB.out.trans (Below.mono ?_ HB.out.size)
                (repeat (first | with_reducible exact Below.rf _ | with_reducible exact World.below_ext _ _ | with_reducible refine Below.ex ?_ _ | with_reducible refine Below.al ?_ _ | with_reducible refine Below.setCell ?_ (by simp) _ | with_reducible refine Below.drew ?_))
              | false =>
                rw [if_neg (fun h => by cases h.2)] at heq
                have HE := hid heq
                clear hB heq e1
                go_wp2_with (go_at_call 75; refine LA.out.mono ?_; rintro e w' ⟨rfl, z3, rfl⟩)
                go_roundw
                case rel =>
                  refine ⟨k + 1, by go_num, by omega, HE.out, ?_⟩
                  refine HB.out.trans (Below.mono ?_ HB.out.size)
                  (repeat (first | with_reducible exact Below.rf _ | with_reducible exact World.below_ext _ _ | with_reducible refine Below.ex ?_ _ | with_reducible refine Below.al ?_ _ | with_reducible refine Below.setCell ?_ (by simp) _ | with_reducible refine Below.drew ?_))
                case measure => simp [intOf]; omega
          · rw [show T.nr - k = 0 by omega, TS.freeFF] at heq
            have HE := hid heq
            clear hB heq
            go_wp2
            go_ret
            exact ⟨ret_bool HE.out, HB.out.is_ext⟩
end Go.Proofs.Qxb6500716a
