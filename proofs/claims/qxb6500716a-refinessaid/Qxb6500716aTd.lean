/-
  FreeMove, crossed: the walks.
-/
import Derived.Test.Qxb6500716aTc
namespace Go.Proofs.Qxb6500716a
open Go.RowKit Go.Maps
set_option linter.unusedSimpArgs false
set_option linter.unusedVariables false
set_option maxRecDepth 20000
set_option maxHeartbeats 4000000

/-- May the robot go from a at the tick to b? -/
def TS.freeM (T : TS) (r a b t : Int) : Bool := T.cOk a && (T.askOk t && (T.freeC r b (t + 1) && (decide (a = b) || (decide (T.hold b t = -1) || (decide (T.hold b t = r) || decide (T.at (T.hold b t) (t + 1) ≠ a))))))
theorem freeM_any (M : TM) (T : TS) (lab : Nat → Nat) (r a b t : Int) (w : World) (h : TAt w lab M T) (hr : I64 r) (ha : I64 a) (hb : I64 b) (ht : I64 t) :
    Calls Try.prog 63 #[.pointer (some ⟨M.t, 0, none⟩), .int .i64 (r), .int .i64 (a), .int .i64 (b), .int .i64 (t)] w fun e w' => e = .returned (.bool (T.freeM r a b t)) ∧ ∃ z, w' = w.ext z := by
  have VC : Hid (Calls Try.prog 80 #[.pointer (some ⟨M.t, 0, none⟩), .int .i64 (a)] w fun e w' => e = .returned (.bool (T.cOk a)) ∧ w' = w) := isCell_any M T lab a w h
  have VA : Hid (Calls Try.prog 81 #[.pointer (some ⟨M.t, 0, none⟩), .int .i64 (t)] w fun e w' => e = .returned (.bool (T.askOk t)) ∧ w' = w) := askable_any M T lab t w h
  have hbd := hold_bd T h.bd b t
  have HT : Hid (T.askOk t = true → -10 ≤ t ∧ t < 1099511627776) := by
    intro h1
    have := h.bd.base
    unfold TS.askOk at h1
    simp at h1
    omega
  have VF := hid (fun (h1 : T.askOk t = true) => freeC_any M T lab r b (t + 1) w h hr hb ⟨by have := HT.out h1; omega, by have := HT.out h1; omega⟩)
  have VH := hid (fun z => holder_any M T lab b t (w.ext z) (h.ex z) hb ht)
  have VT := hid (fun (z : World) (h1 : T.askOk t = true) => at_any M T lab (T.hold b t) (t + 1) (w.ext z) (h.ex z) ⟨by omega, by omega⟩ ⟨by have := HT.out h1; omega, by have := HT.out h1; omega⟩)
  have hab := at_bd h.bd h.bm.bd (T.hold b t) (t + 1)
  unfold TS.freeM
  generalize T.cOk a = x at *
  clear h hr ha hb ht
  cases x with
  | false =>
    clear HT VF VT hab
    go_enter Try.func63, Try.ntmps63
    go_wp2_with (first | (go_at_call 80; refine VC.out.mono ?_; rintro e w' ⟨rfl, rfl⟩) | (go_at_call 81; refine VA.out.mono ?_; rintro e w' ⟨rfl, rfl⟩) | (go_at_call 82; refine VF.out.mono ?_; rintro e w' ⟨rfl, z1, rfl⟩) | (go_at_call 83; refine (VH.out _).mono ?_; rintro e w' ⟨rfl, z2, rfl⟩) | (go_at_call 24; refine (VT.out _).mono ?_; rintro e w' ⟨rfl, z3, rfl⟩))
    go_ret
    refine ⟨rfl, Below.is_ext ?_⟩
    (repeat (first | with_reducible exact Below.rf _ | with_reducible exact World.below_ext _ _ | with_reducible refine Below.ex ?_ _ | with_reducible refine Below.al ?_ _ | with_reducible refine Below.setCell ?_ (by simp) _ | with_reducible refine Below.drew ?_))
  | true =>
    cases hy : T.askOk t with
    | false =>
      rw [hy] at VA
      clear HT VF VT hab hy
      go_enter Try.func63, Try.ntmps63
      go_wp2_with (first | (go_at_call 80; refine VC.out.mono ?_; rintro e w' ⟨rfl, rfl⟩) | (go_at_call 81; refine VA.out.mono ?_; rintro e w' ⟨rfl, rfl⟩) | (go_at_call 82; refine VF.out.mono ?_; rintro e w' ⟨rfl, z1, rfl⟩) | (go_at_call 83; refine (VH.out _).mono ?_; rintro e w' ⟨rfl, z2, rfl⟩) | (go_at_call 24; refine (VT.out _).mono ?_; rintro e w' ⟨rfl, z3, rfl⟩))
      go_ret
      refine ⟨rfl, Below.is_ext ?_⟩
      (repeat (first | with_reducible exact Below.rf _ | with_reducible exact World.below_ext _ _ | with_reducible refine Below.ex ?_ _ | with_reducible refine Below.al ?_ _ | with_reducible refine Below.setCell ?_ (by simp) _ | with_reducible refine Below.drew ?_))
    | true =>
      have hbt := HT.out hy
      replace VF := hid (VF.out hy)
      replace VT := hid (fun z => VT.out z hy)
      rw [hy] at VA
      generalize T.freeC r b (t + 1) = z at *
      generalize T.at (T.hold b t) (t + 1) = o2 at *
      generalize T.hold b t = o at *
      clear HT hy
      cases z with
      | false =>
        go_enter Try.func63, Try.ntmps63
        go_wp2_with (first | (go_at_call 80; refine VC.out.mono ?_; rintro e w' ⟨rfl, rfl⟩) | (go_at_call 81; refine VA.out.mono ?_; rintro e w' ⟨rfl, rfl⟩) | (go_at_call 82; refine VF.out.mono ?_; rintro e w' ⟨rfl, z1, rfl⟩) | (go_at_call 83; refine (VH.out _).mono ?_; rintro e w' ⟨rfl, z2, rfl⟩) | (go_at_call 24; refine (VT.out _).mono ?_; rintro e w' ⟨rfl, z3, rfl⟩))
        go_ret
        refine ⟨rfl, Below.is_ext ?_⟩
        (repeat (first | with_reducible exact Below.rf _ | with_reducible exact World.below_ext _ _ | with_reducible refine Below.ex ?_ _ | with_reducible refine Below.al ?_ _ | with_reducible refine Below.setCell ?_ (by simp) _ | with_reducible refine Below.drew ?_))
      | true =>
        by_cases h1 : a = b
        · have b1 : (a == b) = true := by simp [h1]
          rw [show (true && (true && (true && (decide (a = b) || (decide (o = -1) || (decide (o = r) || decide (o2 ≠ a))))))) = true by simp [h1]]
          clear h1
          go_enter Try.func63, Try.ntmps63
          go_wp2_with (first | (go_at_call 80; refine VC.out.mono ?_; rintro e w' ⟨rfl, rfl⟩) | (go_at_call 81; refine VA.out.mono ?_; rintro e w' ⟨rfl, rfl⟩) | (go_at_call 82; refine VF.out.mono ?_; rintro e w' ⟨rfl, z1, rfl⟩) | (go_at_call 83; refine (VH.out _).mono ?_; rintro e w' ⟨rfl, z2, rfl⟩) | (go_at_call 24; refine (VT.out _).mono ?_; rintro e w' ⟨rfl, z3, rfl⟩))
          go_ret
          refine ⟨rfl, Below.is_ext ?_⟩
          (repeat (first | with_reducible exact Below.rf _ | with_reducible exact World.below_ext _ _ | with_reducible refine Below.ex ?_ _ | with_reducible refine Below.al ?_ _ | with_reducible refine Below.setCell ?_ (by simp) _ | with_reducible refine Below.drew ?_))
        · have b1 : (a == b) = false := by simp [h1]
          by_cases h2 : o = -1
          · subst h2
            rw [show (true && (true && (true && (decide (a = b) || (decide ((-1 : Int) = -1) || (decide ((-1 : Int) = r) || decide (o2 ≠ a))))))) = true by simp]
            clear h1
            go_enter Try.func63, Try.ntmps63
            go_wp2_with (first | (go_at_call 80; refine VC.out.mono ?_; rintro e w' ⟨rfl, rfl⟩) | (go_at_call 81; refine VA.out.mono ?_; rintro e w' ⟨rfl, rfl⟩) | (go_at_call 82; refine VF.out.mono ?_; rintro e w' ⟨rfl, z1, rfl⟩) | (go_at_call 83; refine (VH.out _).mono ?_; rintro e w' ⟨rfl, z2, rfl⟩) | (go_at_call 24; refine (VT.out _).mono ?_; rintro e w' ⟨rfl, z3, rfl⟩))
            go_ret
            refine ⟨rfl, Below.is_ext ?_⟩
            (repeat (first | with_reducible exact Below.rf _ | with_reducible exact World.below_ext _ _ | with_reducible refine Below.ex ?_ _ | with_reducible refine Below.al ?_ _ | with_reducible refine Below.setCell ?_ (by simp) _ | with_reducible refine Below.drew ?_))
          · have b2 : (o == -1) = false := by simp [h2]
            by_cases h3 : o = r
            · have b3 : (o == r) = true := by simp [h3]
              rw [show (true && (true && (true && (decide (a = b) || (decide (o = -1) || (decide (o = r) || decide (o2 ≠ a))))))) = true by simp [h3]]
              clear h1 h3
              go_enter Try.func63, Try.ntmps63
              go_wp2_with (first | (go_at_call 80; refine VC.out.mono ?_; rintro e w' ⟨rfl, rfl⟩) | (go_at_call 81; refine VA.out.mono ?_; rintro e w' ⟨rfl, rfl⟩) | (go_at_call 82; refine VF.out.mono ?_; rintro e w' ⟨rfl, z1, rfl⟩) | (go_at_call 83; refine (VH.out _).mono ?_; rintro e w' ⟨rfl, z2, rfl⟩) | (go_at_call 24; refine (VT.out _).mono ?_; rintro e w' ⟨rfl, z3, rfl⟩))
              go_ret
              refine ⟨rfl, Below.is_ext ?_⟩
              (repeat (first | with_reducible exact Below.rf _ | with_reducible exact World.below_ext _ _ | with_reducible refine Below.ex ?_ _ | with_reducible refine Below.al ?_ _ | with_reducible refine Below.setCell ?_ (by simp) _ | with_reducible refine Below.drew ?_))
            · have b3 : (o == r) = false := by simp [h3]
              by_cases h4 : o2 = a
              · have b4 : (o2 != a) = false := by simp [h4]
                rw [show (true && (true && (true && (decide (a = b) || (decide (o = -1) || (decide (o = r) || decide (o2 ≠ a))))))) = false by simp [h1, h2, h3, h4]]
                clear h1 h2 h3 h4
                go_enter Try.func63, Try.ntmps63
                go_wp2_with (first | (go_at_call 80; refine VC.out.mono ?_; rintro e w' ⟨rfl, rfl⟩) | (go_at_call 81; refine VA.out.mono ?_; rintro e w' ⟨rfl, rfl⟩) | (go_at_call 82; refine VF.out.mono ?_; rintro e w' ⟨rfl, z1, rfl⟩) | (go_at_call 83; refine (VH.out _).mono ?_; rintro e w' ⟨rfl, z2, rfl⟩) | (go_at_call 24; refine (VT.out _).mono ?_; rintro e w' ⟨rfl, z3, rfl⟩))
                go_ret
                refine ⟨rfl, Below.is_ext ?_⟩
                (repeat (first | with_reducible exact Below.rf _ | with_reducible exact World.below_ext _ _ | with_reducible refine Below.ex ?_ _ | with_reducible refine Below.al ?_ _ | with_reducible refine Below.setCell ?_ (by simp) _ | with_reducible refine Below.drew ?_))
              · have b4 : (o2 != a) = true := by simp [h4]
                rw [show (true && (true && (true && (decide (a = b) || (decide (o = -1) || (decide (o = r) || decide (o2 ≠ a))))))) = true by simp [h4]]
                clear h1 h2 h3 h4
                go_enter Try.func63, Try.ntmps63
                go_wp2_with (first | (go_at_call 80; refine VC.out.mono ?_; rintro e w' ⟨rfl, rfl⟩) | (go_at_call 81; refine VA.out.mono ?_; rintro e w' ⟨rfl, rfl⟩) | (go_at_call 82; refine VF.out.mono ?_; rintro e w' ⟨rfl, z1, rfl⟩) | (go_at_call 83; refine (VH.out _).mono ?_; rintro e w' ⟨rfl, z2, rfl⟩) | (go_at_call 24; refine (VT.out _).mono ?_; rintro e w' ⟨rfl, z3, rfl⟩))
                go_ret
                refine ⟨rfl, Below.is_ext ?_⟩
                (repeat (first | with_reducible exact Below.rf _ | with_reducible exact World.below_ext _ _ | with_reducible refine Below.ex ?_ _ | with_reducible refine Below.al ?_ _ | with_reducible refine Below.setCell ?_ (by simp) _ | with_reducible refine Below.drew ?_))

/-- Does the robot change places with one of the others from k on? -/
def TS.crossF (T : TS) (r a b t : Int) : Nat → Nat → Bool
  | _, 0 => false
  | k, n + 1 => if (k : Int) ≠ r ∧ T.at k t = b ∧ T.at k (t + 1) = a then true else T.crossF r a b t (k + 1) n
def TS.crossed (T : TS) (r t : Int) : Bool :=
  if T.at r t = -1 ∨ T.at r (t + 1) = -1 ∨ T.at r t = T.at r (t + 1) then false else T.crossF r (T.at r t) (T.at r (t + 1)) t 0 T.nr
theorem crossed_any (M : TM) (T : TS) (lab : Nat → Nat) (r t : Int) (w : World) (h : TAt w lab M T) (hr : I64 r) (ht : -10 ≤ t ∧ t < 1099511627776) :
    Calls Try.prog 77 #[.pointer (some ⟨M.t, 0, none⟩), .int .i64 (r), .int .i64 (t)] w fun e w' => e = .returned (.bool (T.crossed r t)) ∧ ∃ z, w' = w.ext z := by
  have it : I64 t := ⟨by omega, by omega⟩
  have it1 : I64 (t + 1) := ⟨by omega, by omega⟩
  have hlt := h.bt.lt
  have c1 := h.c1
  have hnr := h.bd.nr
  have A1 := hid (at_any M T lab r t w h hr it)
  have A2 := hid (fun z => at_any M T lab r (t + 1) (w.ext z) (h.ex z) hr it1)
  have A3 := hid (fun (w' : World) (k : Nat) (hk : k ≤ 6) (hB : Below w.heap.size w w') => at_any M T lab k t w' (h.below hB) (I64.nat (by omega)) it)
  have A4 := hid (fun (w' : World) (k : Nat) (hk : k ≤ 6) (hB : Below w.heap.size w w') => at_any M T lab k (t + 1) w' (h.below hB) (I64.nat (by omega)) it1)
  have B1 := at_bd h.bd h.bm.bd r t
  have B2 := at_bd h.bd h.bm.bd r (t + 1)
  have B3 := hid (fun k : Nat => at_bd h.bd h.bm.bd k t)
  have B4 := hid (fun k : Nat => at_bd h.bd h.bm.bd k (t + 1))
  unfold TS.crossed
  clear h it it1
  generalize T.at r t = a at *
  generalize T.at r (t + 1) = b at *
  by_cases h1 : a = -1
  · subst h1
    rw [if_pos (Or.inl rfl)]
    go_enter Try.func77, Try.ntmps77
    go_wp2_with (first | (with_reducible (go_at_call 24; refine A1.out.mono ?_; rintro e w' ⟨rfl, z1, rfl⟩)) | (go_at_call 24; refine (A2.out _).mono ?_; rintro e w' ⟨rfl, z2, rfl⟩))
    go_ret
    refine ⟨rfl, Below.is_ext ?_⟩
    (repeat (first | with_reducible exact Below.rf _ | with_reducible exact World.below_ext _ _ | with_reducible refine Below.ex ?_ _ | with_reducible refine Below.al ?_ _ | with_reducible refine Below.setCell ?_ (by simp) _ | with_reducible refine Below.drew ?_))
  · by_cases h2 : b = -1
    · subst h2
      rw [if_pos (Or.inr (Or.inl rfl))]
      have b1 : (a == -1) = false := by simp [h1]
      clear h1
      go_enter Try.func77, Try.ntmps77
      go_wp2_with (first | (with_reducible (go_at_call 24; refine A1.out.mono ?_; rintro e w' ⟨rfl, z1, rfl⟩)) | (go_at_call 24; refine (A2.out _).mono ?_; rintro e w' ⟨rfl, z2, rfl⟩))
      go_ret
      refine ⟨rfl, Below.is_ext ?_⟩
      (repeat (first | with_reducible exact Below.rf _ | with_reducible exact World.below_ext _ _ | with_reducible refine Below.ex ?_ _ | with_reducible refine Below.al ?_ _ | with_reducible refine Below.setCell ?_ (by simp) _ | with_reducible refine Below.drew ?_))
    · have b1 : (a == -1) = false := by simp [h1]
      have b2 : (b == -1) = false := by simp [h2]
      by_cases h3 : a = b
      · rw [if_pos (Or.inr (Or.inr h3))]
        have b3 : (a == b) = true := by simp [h3]
        clear h1 h2 h3
        go_enter Try.func77, Try.ntmps77
        go_wp2_with (first | (with_reducible (go_at_call 24; refine A1.out.mono ?_; rintro e w' ⟨rfl, z1, rfl⟩)) | (go_at_call 24; refine (A2.out _).mono ?_; rintro e w' ⟨rfl, z2, rfl⟩))
        go_ret
        refine ⟨rfl, Below.is_ext ?_⟩
        (repeat (first | with_reducible exact Below.rf _ | with_reducible exact World.below_ext _ _ | with_reducible refine Below.ex ?_ _ | with_reducible refine Below.al ?_ _ | with_reducible refine Below.setCell ?_ (by simp) _ | with_reducible refine Below.drew ?_))
      · rw [if_neg (by simp [h1, h2, h3])]
        have b3 : (a == b) = false := by simp [h3]
        clear h1 h2 h3
        obtain ⟨res, hres⟩ : ∃ x, T.crossF r a b t 0 T.nr = x := ⟨_, rfl⟩
        rw [hres]
        have HRES := hid hres
        clear hres
        go_enter Try.func77, Try.ntmps77
        go_wp2_with (first | (with_reducible (go_at_call 24; refine A1.out.mono ?_; rintro e w' ⟨rfl, z1, rfl⟩)) | (go_at_call 24; refine (A2.out _).mono ?_; rintro e w' ⟨rfl, z2, rfl⟩))
        go_loopw [9] (fun x wr => ∃ k : Nat, x = .int .i64 (k) ∧ k ≤ T.nr ∧ T.crossF r a b t k (T.nr - k) = res ∧ Below w.heap.size w wr) (fun x _ => T.nr - (intOf x).toNat)
        case atStart => exact ⟨0, rfl, Nat.zero_le _, HRES.out, by (repeat (first | with_reducible exact Below.rf _ | with_reducible exact World.below_ext _ _ | with_reducible refine Below.ex ?_ _ | with_reducible refine Below.al ?_ _ | with_reducible refine Below.setCell ?_ (by simp) _ | with_reducible refine Below.drew ?_))⟩
        case round =>
          obtain ⟨k, rfl, hk, heq, hB⟩ := hrel
          have HB := hid hB
          have c1' : wr.cell? ⟨M.t, 1, none⟩ = some (.int .i64 (T.nr)) := (World.cell?_of_block (hB.block M.t hlt)).trans c1
          have hsz := hB.size
          by_cases hlt2 : k < T.nr
          · have AA := hid (A3.out wr k (by omega) hB)
            have AB := hid (fun z => A4.out (wr.ext z) k (by omega) (hB.ex z))
            have BA := B3.out k
            have BB := B4.out k
            rw [show T.nr - k = (T.nr - (k + 1)) + 1 by omega, TS.crossF] at heq
            generalize T.at k t = p at *
            generalize T.at k (t + 1) = q at *
            by_cases e1 : (k : Int) = r
            · rw [if_neg (fun h => h.1 e1)] at heq
              have HE := hid heq
              have d1 : ((k : Int) != r) = false := by simp [e1]
              clear hB heq e1
              go_wp2_with (first | (with_reducible (go_at_call 24; refine AA.out.mono ?_; rintro e w' ⟨rfl, z3, rfl⟩)) | (go_at_call 24; refine (AB.out _).mono ?_; rintro e w' ⟨rfl, z4, rfl⟩))
              go_roundw
              case rel =>
                refine ⟨k + 1, by go_num, by omega, HE.out, ?_⟩
                refine HB.out.trans (Below.mono ?_ HB.out.size)
                (repeat (first | with_reducible exact Below.rf _ | with_reducible exact World.below_ext _ _ | with_reducible refine Below.ex ?_ _ | with_reducible refine Below.al ?_ _ | with_reducible refine Below.setCell ?_ (by simp) _ | with_reducible refine Below.drew ?_))
              case measure => simp [intOf]; omega
            · have d1 : ((k : Int) != r) = true := by simp [e1]
              by_cases e2 : p = b
              · have d2 : (p == b) = true := by simp [e2]
                by_cases e3 : q = a
                · have d3 : (q == a) = true := by simp [e3]
                  rw [if_pos ⟨e1, e2, e3⟩] at heq
                  have HE := hid heq
                  clear hB heq e1 e2 e3
                  go_wp2_with (first | (with_reducible (go_at_call 24; refine AA.out.mono ?_; rintro e w' ⟨rfl, z3, rfl⟩)) | (go_at_call 24; refine (AB.out _).mono ?_; rintro e w' ⟨rfl, z4, rfl⟩))
                  go_ret
                  refine ⟨ret_bool HE.out, Below.is_ext ?_⟩
                  refine HB.out.trans (Below.mono ?_ HB.out.size)
                  (repeat (first | with_reducible exact Below.rf _ | with_reducible exact World.below_ext _ _ | with_reducible refine Below.ex ?_ _ | with_reducible refine Below.al ?_ _ | with_reducible refine Below.setCell ?_ (by simp) _ | with_reducible refine Below.drew ?_))
                · have d3 : (q == a) = false := by simp [e3]
                  rw [if_neg (fun h => e3 h.2.2)] at heq
                  have HE := hid heq
                  clear hB heq e1 e2 e3
                  go_wp2_with (first | (with_reducible (go_at_call 24; refine AA.out.mono ?_; rintro e w' ⟨rfl, z3, rfl⟩)) | (go_at_call 24; refine (AB.out _).mono ?_; rintro e w' ⟨rfl, z4, rfl⟩))
                  go_roundw
                  case rel =>
                    refine ⟨k + 1, by go_num, by omega, HE.out, ?_⟩
                    refine HB.out.trans (Below.mono ?_ HB.out.size)
                    (repeat (first | with_reducible exact Below.rf _ | with_reducible exact World.below_ext _ _ | with_reducible refine Below.ex ?_ _ | with_reducible refine Below.al ?_ _ | with_reducible refine Below.setCell ?_ (by simp) _ | with_reducible refine Below.drew ?_))
                  case measure => simp [intOf]; omega
              · have d2 : (p == b) = false := by simp [e2]
                rw [if_neg (fun h => e2 h.2.1)] at heq
                have HE := hid heq
                clear hB heq e1 e2
                go_wp2_with (first | (with_reducible (go_at_call 24; refine AA.out.mono ?_; rintro e w' ⟨rfl, z3, rfl⟩)) | (go_at_call 24; refine (AB.out _).mono ?_; rintro e w' ⟨rfl, z4, rfl⟩))
                go_roundw
                case rel =>
                  refine ⟨k + 1, by go_num, by omega, HE.out, ?_⟩
                  refine HB.out.trans (Below.mono ?_ HB.out.size)
                  (repeat (first | with_reducible exact Below.rf _ | with_reducible exact World.below_ext _ _ | with_reducible refine Below.ex ?_ _ | with_reducible refine Below.al ?_ _ | with_reducible refine Below.setCell ?_ (by simp) _ | with_reducible refine Below.drew ?_))
                case measure => simp [intOf]; omega
          · rw [show T.nr - k = 0 by omega, TS.crossF] at heq
            have HE := hid heq
            clear hB heq
            go_wp2
            go_ret
            exact ⟨ret_bool HE.out, HB.out.is_ext⟩
end Go.Proofs.Qxb6500716a
