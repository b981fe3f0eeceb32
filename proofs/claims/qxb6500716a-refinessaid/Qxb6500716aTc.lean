/-
  Holder, FreeCell, FreeMove, crossed: the walks.
-/
import Derived.Test.Qxb6500716aTa
namespace Go.Proofs.Qxb6500716a
open Go.RowKit Go.Maps
set_option linter.unusedSimpArgs false
set_option linter.unusedVariables false
set_option maxRecDepth 20000
set_option maxHeartbeats 4000000

def TS.rOk (T : TS) (r : Int) : Bool := decide (0 ≤ r) && decide (r < (T.nr : Int))
def TS.cOk (T : TS) (c : Int) : Bool := decide (0 ≤ c) && decide (c < (T.nc : Int))
def TS.askOk (T : TS) (t : Int) : Bool := decide ((T.base : Int) ≤ t) && decide (t < 1099511627776)
def TS.holdF (T : TS) (c t : Int) : Nat → Nat → Int
  | _, 0 => -1
  | k, n + 1 => if T.at k t = c then (k : Int) else T.holdF c t (k + 1) n
/-- Who is on a cell at a tick. -/
def TS.hold (T : TS) (c t : Int) : Int := T.holdF c t 0 T.nr
theorem holdF_bd (T : TS) (c t : Int) : ∀ n k : Nat, -1 ≤ T.holdF c t k n ∧ T.holdF c t k n < (k + n : Int) := by
  intro n
  induction n with
  | zero => intro k; simp [TS.holdF]; omega
  | succ n ih =>
    intro k
    unfold TS.holdF
    split
    · omega
    · have := ih (k + 1); omega
theorem hold_bd (T : TS) (hb : TBd T) (c t : Int) : -1 ≤ T.hold c t ∧ T.hold c t < 6 := by
  have := holdF_bd T c t T.nr 0
  have := hb.nr
  unfold TS.hold
  omega
theorem spAt_bd {T : TS} (r t : Int) : ∀ l : List Sg, (∀ x, x ∈ l → x.c < T.nc) → -1 ≤ spAt l r t ∧ spAt l r t < T.nc ∨ spAt l r t = -1 := by
  intro l
  induction l with
  | nil => intro _; right; rfl
  | cons x l ih =>
    intro h
    unfold spAt
    split
    · have := h x (by simp)
      left; omega
    · exact ih (fun y hy => h y (by simp [hy]))
theorem at_bd {T : TS} (hb : TBd T) (hm : MBd T.tm) (r t : Int) : -1 ≤ T.at r t ∧ T.at r t < 1000 := by
  unfold TS.at
  split
  · rename_i x hx
    have := hm.x _ _ _ hx
    omega
  · have := spAt_bd (T := T) r t T.sp (fun x hx => (hb.sp x hx).2.1)
    have := hb.nc
    omega

theorem holder_any (M : TM) (T : TS) (lab : Nat → Nat) (c t : Int) (w : World) (h : TAt w lab M T) (hc : I64 c) (ht : I64 t) :
    Calls Try.prog 83 #[.pointer (some ⟨M.t, 0, none⟩), .int .i64 (c), .int .i64 (t)] w fun e w' => e = .returned (.int .i64 (T.hold c t)) ∧ ∃ z, w' = w.ext z := by
  have HH := hid h
  have c1 := h.c1
  have hlt := h.bt.lt
  have hnr := h.bd.nr
  have HT := hid ht
  have HR := hid (fun (w' : World) (k : Nat) (hk : k ≤ 6) (hB : Below w.heap.size w w') => at_any M T lab k t w' (h.below hB) (I64.nat (by omega)) ht)
  clear h hc ht
  go_enter Try.func83, Try.ntmps83
  go_wp2
  go_loopw [7] (fun x wr => ∃ k : Nat, x = .int .i64 (k) ∧ k ≤ T.nr ∧ T.holdF c t k (T.nr - k) = T.hold c t ∧ Below w.heap.size w wr) (fun x _ => T.nr - (intOf x).toNat)
  case atStart => exact ⟨0, rfl, Nat.zero_le _, rfl, by (repeat (first | with_reducible exact Below.rf _ | with_reducible exact World.below_ext _ _ | with_reducible refine Below.ex ?_ _ | with_reducible refine Below.al ?_ _ | with_reducible refine Below.setCell ?_ (by simp) _ | with_reducible refine Below.drew ?_))⟩
  case round =>
    obtain ⟨k, rfl, hk, heq, hB⟩ := hrel
    have HB := hid hB
    have c1' : wr.cell? ⟨M.t, 1, none⟩ = some (.int .i64 (T.nr)) := (World.cell?_of_block (hB.block M.t hlt)).trans c1
    by_cases hlt2 : k < T.nr
    · have AT := hid (HR.out wr k (by omega) hB)
      rw [show T.nr - k = (T.nr - (k + 1)) + 1 by omega, TS.holdF] at heq
      have HE := hid heq
      have hsz := hB.size
      by_cases he : T.at k t = c
      · rw [if_pos he] at HE
        clear hB heq
        have b1 : (T.at k t == c) = true := by simp [he]
        rw [he] at AT b1
        clear he
        go_wp2_with (go_at_call 24; refine AT.out.mono ?_; rintro e w' ⟨rfl, z1, rfl⟩)
        go_ret
        refine ⟨ret_int HE.out, Below.is_ext ?_⟩
        refine HB.out.trans (Below.mono ?_ HB.out.size)
        (repeat (first | with_reducible exact Below.rf _ | with_reducible exact World.below_ext _ _ | with_reducible refine Below.ex ?_ _ | with_reducible refine Below.al ?_ _ | with_reducible refine Below.setCell ?_ (by simp) _ | with_reducible refine Below.drew ?_))
      · rw [if_neg he] at HE
        clear hB heq
        have b1 : (T.at k t == c) = false := by simp [he]
        generalize T.at k t = y at *
        clear he
        go_wp2_with (go_at_call 24; refine AT.out.mono ?_; rintro e w' ⟨rfl, z1, rfl⟩)
        go_roundw
        case rel =>
          refine ⟨k + 1, by go_num, by omega, HE.out, ?_⟩
          refine HB.out.trans (Below.mono ?_ HB.out.size)
          (repeat (first | with_reducible exact Below.rf _ | with_reducible exact World.below_ext _ _ | with_reducible refine Below.ex ?_ _ | with_reducible refine Below.al ?_ _ | with_reducible refine Below.setCell ?_ (by simp) _ | with_reducible refine Below.drew ?_))
        case measure => simp [intOf]; omega
    · rw [show T.nr - k = 0 by omega, TS.holdF] at heq
      have HE := hid heq
      clear hB heq
      go_wp2
      go_ret
      exact ⟨ret_int HE.out, HB.out.is_ext⟩

/-- May the robot be on the cell at the tick? -/
def TS.freeC (T : TS) (r c t : Int) : Bool := T.rOk r && (T.cOk c && (T.askOk t && (decide (T.hold c t = -1) || decide (T.hold c t = r))))
theorem freeC_any (M : TM) (T : TS) (lab : Nat → Nat) (r c t : Int) (w : World) (h : TAt w lab M T) (hr : I64 r) (hc : I64 c) (ht : I64 t) :
    Calls Try.prog 82 #[.pointer (some ⟨M.t, 0, none⟩), .int .i64 (r), .int .i64 (c), .int .i64 (t)] w fun e w' => e = .returned (.bool (T.freeC r c t)) ∧ ∃ z, w' = w.ext z := by
  have VR : Hid (Calls Try.prog 78 #[.pointer (some ⟨M.t, 0, none⟩), .int .i64 (r)] w fun e w' => e = .returned (.bool (T.rOk r)) ∧ w' = w) := isRobot_any M T lab r w h
  have VC : Hid (Calls Try.prog 80 #[.pointer (some ⟨M.t, 0, none⟩), .int .i64 (c)] w fun e w' => e = .returned (.bool (T.cOk c)) ∧ w' = w) := isCell_any M T lab c w h
  have VA : Hid (Calls Try.prog 81 #[.pointer (some ⟨M.t, 0, none⟩), .int .i64 (t)] w fun e w' => e = .returned (.bool (T.askOk t)) ∧ w' = w) := askable_any M T lab t w h
  have VH := hid (holder_any M T lab c t w h hc ht)
  have hb := hold_bd T h.bd c t
  unfold TS.freeC
  generalize T.rOk r = x at *
  generalize T.cOk c = y at *
  generalize T.askOk t = z at *
  generalize T.hold c t = o at *
  clear h hr hc ht
  cases x with
  | false =>
    go_enter Try.func82, Try.ntmps82
    go_wp2_with (first | (go_at_call 78; refine VR.out.mono ?_; rintro e w' ⟨rfl, rfl⟩) | (go_at_call 80; refine VC.out.mono ?_; rintro e w' ⟨rfl, rfl⟩) | (go_at_call 81; refine VA.out.mono ?_; rintro e w' ⟨rfl, rfl⟩) | (go_at_call 83; refine VH.out.mono ?_; rintro e w' ⟨rfl, z1, rfl⟩))
    go_ret
    refine ⟨rfl, Below.is_ext ?_⟩
    (repeat (first | with_reducible exact Below.rf _ | with_reducible exact World.below_ext _ _ | with_reducible refine Below.ex ?_ _ | with_reducible refine Below.al ?_ _ | with_reducible refine Below.setCell ?_ (by simp) _ | with_reducible refine Below.drew ?_))
  | true =>
    cases y with
    | false =>
      go_enter Try.func82, Try.ntmps82
      go_wp2_with (first | (go_at_call 78; refine VR.out.mono ?_; rintro e w' ⟨rfl, rfl⟩) | (go_at_call 80; refine VC.out.mono ?_; rintro e w' ⟨rfl, rfl⟩) | (go_at_call 81; refine VA.out.mono ?_; rintro e w' ⟨rfl, rfl⟩) | (go_at_call 83; refine VH.out.mono ?_; rintro e w' ⟨rfl, z1, rfl⟩))
      go_ret
      refine ⟨rfl, Below.is_ext ?_⟩
      (repeat (first | with_reducible exact Below.rf _ | with_reducible exact World.below_ext _ _ | with_reducible refine Below.ex ?_ _ | with_reducible refine Below.al ?_ _ | with_reducible refine Below.setCell ?_ (by simp) _ | with_reducible refine Below.drew ?_))
    | true =>
      cases z with
      | false =>
        go_enter Try.func82, Try.ntmps82
        go_wp2_with (first | (go_at_call 78; refine VR.out.mono ?_; rintro e w' ⟨rfl, rfl⟩) | (go_at_call 80; refine VC.out.mono ?_; rintro e w' ⟨rfl, rfl⟩) | (go_at_call 81; refine VA.out.mono ?_; rintro e w' ⟨rfl, rfl⟩) | (go_at_call 83; refine VH.out.mono ?_; rintro e w' ⟨rfl, z1, rfl⟩))
        go_ret
        refine ⟨rfl, Below.is_ext ?_⟩
        (repeat (first | with_reducible exact Below.rf _ | with_reducible exact World.below_ext _ _ | with_reducible refine Below.ex ?_ _ | with_reducible refine Below.al ?_ _ | with_reducible refine Below.setCell ?_ (by simp) _ | with_reducible refine Below.drew ?_))
      | true =>
        by_cases h1 : o = -1
        · subst h1
          go_enter Try.func82, Try.ntmps82
          go_wp2_with (first | (go_at_call 78; refine VR.out.mono ?_; rintro e w' ⟨rfl, rfl⟩) | (go_at_call 80; refine VC.out.mono ?_; rintro e w' ⟨rfl, rfl⟩) | (go_at_call 81; refine VA.out.mono ?_; rintro e w' ⟨rfl, rfl⟩) | (go_at_call 83; refine VH.out.mono ?_; rintro e w' ⟨rfl, z1, rfl⟩))
          go_ret
          refine ⟨rfl, Below.is_ext ?_⟩
          (repeat (first | with_reducible exact Below.rf _ | with_reducible exact World.below_ext _ _ | with_reducible refine Below.ex ?_ _ | with_reducible refine Below.al ?_ _ | with_reducible refine Below.setCell ?_ (by simp) _ | with_reducible refine Below.drew ?_))
        · have b1 : (o == -1) = false := by simp [h1]
          by_cases h2 : o = r
          · have b2 : (o == r) = true := by simp [h2]
            rw [show (true && (true && (true && (decide (o = -1) || decide (o = r))))) = true by simp [h2]]
            clear h2
            go_enter Try.func82, Try.ntmps82
            go_wp2_with (first | (go_at_call 78; refine VR.out.mono ?_; rintro e w' ⟨rfl, rfl⟩) | (go_at_call 80; refine VC.out.mono ?_; rintro e w' ⟨rfl, rfl⟩) | (go_at_call 81; refine VA.out.mono ?_; rintro e w' ⟨rfl, rfl⟩) | (go_at_call 83; refine VH.out.mono ?_; rintro e w' ⟨rfl, z1, rfl⟩))
            go_ret
            refine ⟨rfl, Below.is_ext ?_⟩
            (repeat (first | with_reducible exact Below.rf _ | with_reducible exact World.below_ext _ _ | with_reducible refine Below.ex ?_ _ | with_reducible refine Below.al ?_ _ | with_reducible refine Below.setCell ?_ (by simp) _ | with_reducible refine Below.drew ?_))
          · have b2 : (o == r) = false := by simp [h2]
            rw [show (true && (true && (true && (decide (o = -1) || decide (o = r))))) = false by simp [h1, h2]]
            clear h1 h2
            go_enter Try.func82, Try.ntmps82
            go_wp2_with (first | (go_at_call 78; refine VR.out.mono ?_; rintro e w' ⟨rfl, rfl⟩) | (go_at_call 80; refine VC.out.mono ?_; rintro e w' ⟨rfl, rfl⟩) | (go_at_call 81; refine VA.out.mono ?_; rintro e w' ⟨rfl, rfl⟩) | (go_at_call 83; refine VH.out.mono ?_; rintro e w' ⟨rfl, z1, rfl⟩))
            go_ret
            refine ⟨rfl, Below.is_ext ?_⟩
            (repeat (first | with_reducible exact Below.rf _ | with_reducible exact World.below_ext _ _ | with_reducible refine Below.ex ?_ _ | with_reducible refine Below.al ?_ _ | with_reducible refine Below.setCell ?_ (by simp) _ | with_reducible refine Below.drew ?_))
end Go.Proofs.Qxb6500716a
