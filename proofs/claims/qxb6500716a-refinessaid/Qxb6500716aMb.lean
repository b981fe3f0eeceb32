/-
  The model: blocked.
-/
import Derived.Test.Qxb6500716aMa
namespace Go.Proofs.Qxb6500716a
open Go.RowKit Go.Maps
set_option linter.unusedSimpArgs false
set_option linter.unusedVariables false
set_option maxRecDepth 20000
set_option maxHeartbeats 4000000
def TS.blk1 (T : TS) (q : Rq) (pv : Int) (k : Int) : Bool := decide (T.at k q.t = q.s) || (decide (pv ≠ -1) && (decide (pv ≠ q.s) && (decide (T.at k (q.t - 1) = q.s) && decide (T.at k q.t = pv))))
def TS.blkF (T : TS) (q : Rq) (pv : Int) : Nat → Nat → Bool
  | _, 0 => false
  | k, n + 1 => if (k : Int) ≠ q.r ∧ T.blk1 q pv k = true then true else T.blkF q pv (k + 1) n
/-- Does another robot bar the start? -/
def TS.blk (T : TS) (q : Rq) (n : Nat) : Bool := T.blkF q (T.at q.r (q.t - 1)) 0 n
set_option maxHeartbeats 4000000 in
theorem blocked_any (mb fb nb : Nat) (M : TM) (F : FS) (T : TS) (lab : Nat → Nat) (q : Rq) (gv : Value) (w : World) (hF : FAt w lab fb F) (hT : TAt w lab M T) (hm : MoAt w mb fb M.t) (hr : I64 q.r) (ht : -4000000000 ≤ q.t ∧ q.t ≤ 4000000000) (hnb : F.bays.length = nb) :
    Calls Try.prog 62 #[.pointer (some ⟨mb, 0, none⟩), .agg #[.int .i64 ((q).r), .int .i64 ((q).s), .int .i64 ((q).t), gv, .int .i64 ((q).h), .int .i64 ((q).m)]] w fun e w' => e = .returned (.bool (T.blk q nb)) ∧ ∃ z, w' = w.ext z := by
  have HF := hid hF
  have HT := hid hT
  have HM := hid hm
  have HNB := hid hnb
  have hnb6 := hF.ok.nb.2
  rw [hnb] at hnb6
  have m1 := hm.c1
  have hml := hm.lt
  unfold I64 at hr
  unfold TS.blk
  obtain ⟨pv, hvpv⟩ : ∃ y, T.at q.r (q.t - 1) = y := ⟨_, rfl⟩
  rw [hvpv]
  obtain ⟨res, hres⟩ : ∃ y, T.blkF q pv 0 nb = y := ⟨_, rfl⟩
  rw [hres]
  have HR := hid hres
  have AP : Hid (∀ w' : World, Below w.heap.size w w' → Calls Try.prog 24 #[.pointer (some ⟨M.t, 0, none⟩), .int .i64 (q.r), .int .i64 (q.t - 1)] w' fun e w'' => e = .returned (.int .i64 (pv)) ∧ ∃ z, w'' = w'.ext z) := fun w' h => by
    have := at_any M T lab q.r (q.t - 1) w' (HT.out.below h) hr (by unfold I64; omega)
    rw [hvpv] at this
    exact this
  clear hF hT hm hnb hres hvpv
  go_enter Try.func62, Try.ntmps62
  go_wp2
  refine wp_nm fun w1 hw1 => ?_
  have hb1 : Below w.heap.size w w1 := by rw [hw1]; (repeat (first | with_reducible exact Below.rf _ | with_reducible exact World.below_ext _ _ | with_reducible refine Below.ex ?_ _ | with_reducible refine Below.al ?_ _ | with_reducible refine Below.setCell ?_ (by simp) _ | with_reducible refine Below.drew ?_))
  obtain ⟨sb, hsb⟩ : ∃ y, w.heap.size = y := ⟨_, rfl⟩
  have s0 : w1.cell? ⟨w.heap.size, 0, none⟩ = some (.int .i64 (q.r)) := by rw [hw1]; simp [go_sem, ↓IntWalk.iteOmega]
  have s1 : w1.cell? ⟨w.heap.size, 1, none⟩ = some (.int .i64 (q.s)) := by rw [hw1]; simp [go_sem, ↓IntWalk.iteOmega]
  have s2 : w1.cell? ⟨w.heap.size, 2, none⟩ = some (.int .i64 (q.t)) := by rw [hw1]; simp [go_sem, ↓IntWalk.iteOmega]
  have hsl : w.heap.size < w1.heap.size := by rw [hw1]; simp
  have m1' := (World.cell?_of_block (hb1.block mb hml)).trans m1
  have hml' := Nat.lt_of_lt_of_le hml hb1.size
  have HB1 := hid hb1
  have AP1 := hid (fun (w' : World) (h : Below w1.heap.size w1 w') => AP.out w' (hb1.trans (h.mono hb1.size)))
  rw [hsb] at s0 s1 s2 hsl ⊢
  have HSB := hid hsb
  clear hw1 hb1 m1 hml AP hsb
  first | with_reducible refine wp_region_ext2 (by kernel_rfl) (by kernel_rfl) ?_ | refine wp_region_ext (by kernel_rfl) (by kernel_rfl) ?_
  repeat (go_big_quiet_step ((go_at_call 24; with_reducible exact Calls.ext_of (AP1.out _ (by (repeat (first | with_reducible exact Below.rf _ | with_reducible exact World.below_ext _ _ | with_reducible refine Below.ex ?_ _ | with_reducible refine Below.al ?_ _ | with_reducible refine Below.setCell ?_ (by simp) _ | with_reducible refine Below.drew ?_)))))))
  refine wpQuiet_nil ?_
  rintro w2 ⟨z, hw2⟩
  have hb2 : Below w1.heap.size w1 w2 := by rw [hw2]; exact World.below_ext w1 z
  have S0 := (World.cell?_of_block (hb2.block sb hsl)).trans s0
  have S1 := (World.cell?_of_block (hb2.block sb hsl)).trans s1
  have S2 := (World.cell?_of_block (hb2.block sb hsl)).trans s2
  have HSL := Nat.lt_of_lt_of_le hsl hb2.size
  have HB2 : Hid (Below w.heap.size w w2) := HB1.out.trans (hb2.mono HB1.out.size)
  have HT2 := hid (HT.out.below HB2.out)
  have HF2 := hid (HF.out.below HB2.out)
  have HM2 := hid (HM.out.below HB2.out)
  clear hw2 hb2 s0 s1 s2 hsl m1' hml' AP1 HB1 HT HF HM
  go_wp2
  go_loopw [6] (fun v wr => ∃ k : Nat, v = .int .i64 (k) ∧ k ≤ nb ∧ T.blkF q pv k (nb - k) = res ∧ Below w2.heap.size w2 wr) (fun v _ => nb - (intOf v).toNat)
  case atStart => exact ⟨0, rfl, Nat.zero_le _, HR.out, Below.rf _⟩
  case round =>
    obtain ⟨k, rfl, hk, heq, hB⟩ := hrel
    have s0 := (World.cell?_of_block (hB.block sb HSL)).trans S0
    have s1 := (World.cell?_of_block (hB.block sb HSL)).trans S1
    have s2 := (World.cell?_of_block (hB.block sb HSL)).trans S2
    have hsl := Nat.lt_of_lt_of_le HSL hB.size
    have HB := hid hB
    have hMB := HM2.out.below hB
    have m0 := hMB.c0
    have m1 := hMB.c1
    have hml := hMB.lt
    have RO : Hid (∀ w' : World, Below wr.heap.size wr w' → Calls Try.prog 23 #[.pointer (some ⟨fb, 0, none⟩)] w' fun e w'' => e = .returned (.int .i64 (nb)) ∧ w'' = w') := fun w' h => by
      have := robots_any fb F lab w' (HF2.out.below (HB.out.trans (h.mono HB.out.size)))
      rw [HNB.out] at this
      exact this
    clear hB
    by_cases hkn : k < nb
    · have dk : decide ((k : Int) < (nb : Int)) = true := by simp; omega
      have dkn : decide (k < nb) = true := by simp; omega
      obtain ⟨j, hj⟩ : ∃ j, nb - k = j + 1 := ⟨nb - k - 1, by omega⟩
      have hj2 : nb - (k + 1) = j := by omega
      rw [hj, TS.blkF] at heq
      by_cases hkr : (k : Int) = q.r
      · have dr : ((k : Int) == q.r) = true := by simp [hkr]
        rw [if_neg (fun e => e.1 hkr)] at heq
        have HEQ : Hid (T.blkF q pv (k + 1) (nb - (k + 1)) = res) := by rw [hj2]; exact heq
        clear heq hkr hj hj2 hMB
        go_wp2_with (first | (go_at_call 23; refine (RO.out _ (by (repeat (first | with_reducible exact Below.rf _ | with_reducible exact World.below_ext _ _ | with_reducible refine Below.ex ?_ _ | with_reducible refine Below.al ?_ _ | with_reducible refine Below.setCell ?_ (by simp) _ | with_reducible refine Below.drew ?_)))).mono ?_; rintro e w' ⟨rfl, hw'⟩; obtain rfl := hw'.symm))
        go_roundw
        case rel => exact ⟨k + 1, by go_num, by omega, HEQ.out, HB.out⟩
        case measure => (simp [intOf] <;> omega)
      · have dr : ((k : Int) == q.r) = false := by simp [hkr]
        obtain ⟨v0, hvv0⟩ : ∃ y, T.at k q.t = y := ⟨_, rfl⟩
        obtain ⟨v1, hvv1⟩ : ∃ y, T.at k (q.t - 1) = y := ⟨_, rfl⟩
        have A0 : Hid (∀ w' : World, Below wr.heap.size wr w' → Calls Try.prog 24 #[.pointer (some ⟨M.t, 0, none⟩), .int .i64 (k), .int .i64 (q.t)] w' fun e w'' => e = .returned (.int .i64 (v0)) ∧ ∃ z, w'' = w'.ext z) := fun w' h => by
          have := at_any M T lab (k) (q.t) w' (HT2.out.below (HB.out.trans (h.mono HB.out.size))) (by unfold I64; omega) (by unfold I64; omega)
          rw [hvv0] at this
          exact this
        have A1 : Hid (∀ w' : World, Below wr.heap.size wr w' → Calls Try.prog 24 #[.pointer (some ⟨M.t, 0, none⟩), .int .i64 (k), .int .i64 (q.t - 1)] w' fun e w'' => e = .returned (.int .i64 (v1)) ∧ ∃ z, w'' = w'.ext z) := fun w' h => by
          have := at_any M T lab (k) (q.t - 1) w' (HT2.out.below (HB.out.trans (h.mono HB.out.size))) (by unfold I64; omega) (by unfold I64; omega)
          rw [hvv1] at this
          exact this
        unfold TS.blk1 at heq
        rw [hvv0, hvv1] at heq
        by_cases e1 : v0 = q.s
        · have d1 : (v0 == q.s) = true := by simp [e1]
          rw [if_pos ⟨hkr, by simp [e1]⟩] at heq
          have HEQ := hid heq
          clear heq hkr hj hj2 hvv0 hvv1 e1 A1
          go_wp2_with (first | (go_at_call 23; refine (RO.out _ (by (repeat (first | with_reducible exact Below.rf _ | with_reducible exact World.below_ext _ _ | with_reducible refine Below.ex ?_ _ | with_reducible refine Below.al ?_ _ | with_reducible refine Below.setCell ?_ (by simp) _ | with_reducible refine Below.drew ?_)))).mono ?_; rintro e w' ⟨rfl, hw'⟩; obtain rfl := hw'.symm))
          first | with_reducible refine wp_region_ext2 (by kernel_rfl) (by kernel_rfl) ?_ | refine wp_region_ext (by kernel_rfl) (by kernel_rfl) ?_
          repeat (go_big_quiet_step ((go_at_call 24; with_reducible exact Calls.ext_of (A0.out _ (by (repeat (first | with_reducible exact Below.rf _ | with_reducible exact World.below_ext _ _ | with_reducible refine Below.ex ?_ _ | with_reducible refine Below.al ?_ _ | with_reducible refine Below.setCell ?_ (by simp) _ | with_reducible refine Below.drew ?_)))))))
          refine wpQuiet_nil ?_
          rintro w3 ⟨z, hw2⟩
          have hb3 : Below wr.heap.size wr w3 := by rw [hw2]; exact World.below_ext wr z
          have HB4 : Hid (Below w2.heap.size w2 w3) := HB.out.trans (hb3.mono HB.out.size)
          clear hb3 hw2 hMB
          go_wp2
          go_ret
          exact ⟨by rw [← HEQ.out]; rfl, (HB2.out.trans (HB4.out.mono HB2.out.size)).is_ext⟩
        have d1 : (v0 == q.s) = false := by simp [e1]
        by_cases e2 : pv = -1
        · have d2 : (pv != -1) = false := by simp [e2]
          rw [if_neg (fun e => by simp [e1, e2] at e)] at heq
          have HEQ : Hid (T.blkF q pv (k + 1) (nb - (k + 1)) = res) := by rw [hj2]; exact heq
          clear heq hkr hj hj2 hvv0 hvv1 e1 e2
          go_wp2_with (first | (go_at_call 23; refine (RO.out _ (by (repeat (first | with_reducible exact Below.rf _ | with_reducible exact World.below_ext _ _ | with_reducible refine Below.ex ?_ _ | with_reducible refine Below.al ?_ _ | with_reducible refine Below.setCell ?_ (by simp) _ | with_reducible refine Below.drew ?_)))).mono ?_; rintro e w' ⟨rfl, hw'⟩; obtain rfl := hw'.symm))
          first | with_reducible refine wp_region_ext2 (by kernel_rfl) (by kernel_rfl) ?_ | refine wp_region_ext (by kernel_rfl) (by kernel_rfl) ?_
          repeat (go_big_quiet_step ((go_at_call 24; with_reducible exact Calls.ext_of (A0.out _ (by (repeat (first | with_reducible exact Below.rf _ | with_reducible exact World.below_ext _ _ | with_reducible refine Below.ex ?_ _ | with_reducible refine Below.al ?_ _ | with_reducible refine Below.setCell ?_ (by simp) _ | with_reducible refine Below.drew ?_)))))))
          refine wpQuiet_nil ?_
          rintro w3 ⟨z, hw2⟩
          have hb3 : Below wr.heap.size wr w3 := by rw [hw2]; exact World.below_ext wr z
          have HB4 : Hid (Below w2.heap.size w2 w3) := HB.out.trans (hb3.mono HB.out.size)
          have s1' := (World.cell?_of_block (hb3.block sb hsl)).trans s1
          have s2' := (World.cell?_of_block (hb3.block sb hsl)).trans s2
          have m1' := (hMB.below hb3).c1
          have hsl' := Nat.lt_of_lt_of_le hsl hb3.size
          have hml' := (hMB.below hb3).lt
          have B0 := hid (fun (w' : World) (h : Below w3.heap.size w3 w') => A0.out w' (hb3.trans (h.mono hb3.size)))
          have B1 := hid (fun (w' : World) (h : Below w3.heap.size w3 w') => A1.out w' (hb3.trans (h.mono hb3.size)))
          clear hw2 hb3 A0 A1 s0 s1 s2 hsl m0 m1 hml
          have HB3 := HB4
          clear HB4
          go_wp2
          first | with_reducible refine wp_region_ext2 (by kernel_rfl) (by kernel_rfl) ?_ | refine wp_region_ext (by kernel_rfl) (by kernel_rfl) ?_
          repeat (go_big_quiet_step (fail))
          refine wpQuiet_nil ?_
          rintro w4 ⟨z, hw2⟩
          have HB4 : Hid (Below w2.heap.size w2 w4) := HB3.out.trans (Below.mono (by rw [hw2]; exact World.below_ext w3 _) HB3.out.size)
          clear hw2
          go_wp2
          go_roundw
          case rel => exact ⟨k + 1, by go_num, by omega, HEQ.out, HB4.out⟩
          case measure => (simp [intOf] <;> omega)
        have d2 : (pv != -1) = true := by simp [e2]
        by_cases e3 : pv = q.s
        · have d3 : (pv != q.s) = false := by simp [e3]
          rw [if_neg (fun e => by simp [e1, e3] at e)] at heq
          have HEQ : Hid (T.blkF q pv (k + 1) (nb - (k + 1)) = res) := by rw [hj2]; exact heq
          clear heq hkr hj hj2 hvv0 hvv1 e1 e2 e3
          go_wp2_with (first | (go_at_call 23; refine (RO.out _ (by (repeat (first | with_reducible exact Below.rf _ | with_reducible exact World.below_ext _ _ | with_reducible refine Below.ex ?_ _ | with_reducible refine Below.al ?_ _ | with_reducible refine Below.setCell ?_ (by simp) _ | with_reducible refine Below.drew ?_)))).mono ?_; rintro e w' ⟨rfl, hw'⟩; obtain rfl := hw'.symm))
          first | with_reducible refine wp_region_ext2 (by kernel_rfl) (by kernel_rfl) ?_ | refine wp_region_ext (by kernel_rfl) (by kernel_rfl) ?_
          repeat (go_big_quiet_step ((go_at_call 24; with_reducible exact Calls.ext_of (A0.out _ (by (repeat (first | with_reducible exact Below.rf _ | with_reducible exact World.below_ext _ _ | with_reducible refine Below.ex ?_ _ | with_reducible refine Below.al ?_ _ | with_reducible refine Below.setCell ?_ (by simp) _ | with_reducible refine Below.drew ?_)))))))
          refine wpQuiet_nil ?_
          rintro w3 ⟨z, hw2⟩
          have hb3 : Below wr.heap.size wr w3 := by rw [hw2]; exact World.below_ext wr z
          have HB4 : Hid (Below w2.heap.size w2 w3) := HB.out.trans (hb3.mono HB.out.size)
          have s1' := (World.cell?_of_block (hb3.block sb hsl)).trans s1
          have s2' := (World.cell?_of_block (hb3.block sb hsl)).trans s2
          have m1' := (hMB.below hb3).c1
          have hsl' := Nat.lt_of_lt_of_le hsl hb3.size
          have hml' := (hMB.below hb3).lt
          have B0 := hid (fun (w' : World) (h : Below w3.heap.size w3 w') => A0.out w' (hb3.trans (h.mono hb3.size)))
          have B1 := hid (fun (w' : World) (h : Below w3.heap.size w3 w') => A1.out w' (hb3.trans (h.mono hb3.size)))
          clear hw2 hb3 A0 A1 s0 s1 s2 hsl m0 m1 hml
          have HB3 := HB4
          clear HB4
          go_wp2
          first | with_reducible refine wp_region_ext2 (by kernel_rfl) (by kernel_rfl) ?_ | refine wp_region_ext (by kernel_rfl) (by kernel_rfl) ?_
          repeat (go_big_quiet_step (fail))
          refine wpQuiet_nil ?_
          rintro w4 ⟨z, hw2⟩
          have HB4 : Hid (Below w2.heap.size w2 w4) := HB3.out.trans (Below.mono (by rw [hw2]; exact World.below_ext w3 _) HB3.out.size)
          clear hw2
          go_wp2
          go_roundw
          case rel => exact ⟨k + 1, by go_num, by omega, HEQ.out, HB4.out⟩
          case measure => (simp [intOf] <;> omega)
        have d3 : (pv != q.s) = true := by simp [e3]
        by_cases e4 : v1 = q.s
        · have d4 : (v1 == q.s) = true := by simp [e4]
          by_cases e5 : v0 = pv
          · have d5 : (v0 == pv) = true := by simp [e5]
            rw [if_pos ⟨hkr, by simp [e2, e3, e4, e5]⟩] at heq
            have HEQ := hid heq
            clear heq hkr hj hj2 hvv0 hvv1 e1 e2 e3 e4 e5
            go_wp2_with (first | (go_at_call 23; refine (RO.out _ (by (repeat (first | with_reducible exact Below.rf _ | with_reducible exact World.below_ext _ _ | with_reducible refine Below.ex ?_ _ | with_reducible refine Below.al ?_ _ | with_reducible refine Below.setCell ?_ (by simp) _ | with_reducible refine Below.drew ?_)))).mono ?_; rintro e w' ⟨rfl, hw'⟩; obtain rfl := hw'.symm))
            first | with_reducible refine wp_region_ext2 (by kernel_rfl) (by kernel_rfl) ?_ | refine wp_region_ext (by kernel_rfl) (by kernel_rfl) ?_
            repeat (go_big_quiet_step ((go_at_call 24; with_reducible exact Calls.ext_of (A0.out _ (by (repeat (first | with_reducible exact Below.rf _ | with_reducible exact World.below_ext _ _ | with_reducible refine Below.ex ?_ _ | with_reducible refine Below.al ?_ _ | with_reducible refine Below.setCell ?_ (by simp) _ | with_reducible refine Below.drew ?_)))))))
            refine wpQuiet_nil ?_
            rintro w3 ⟨z, hw2⟩
            have hb3 : Below wr.heap.size wr w3 := by rw [hw2]; exact World.below_ext wr z
            have HB4 : Hid (Below w2.heap.size w2 w3) := HB.out.trans (hb3.mono HB.out.size)
            have s1' := (World.cell?_of_block (hb3.block sb hsl)).trans s1
            have s2' := (World.cell?_of_block (hb3.block sb hsl)).trans s2
            have m1' := (hMB.below hb3).c1
            have hsl' := Nat.lt_of_lt_of_le hsl hb3.size
            have hml' := (hMB.below hb3).lt
            have B0 := hid (fun (w' : World) (h : Below w3.heap.size w3 w') => A0.out w' (hb3.trans (h.mono hb3.size)))
            have B1 := hid (fun (w' : World) (h : Below w3.heap.size w3 w') => A1.out w' (hb3.trans (h.mono hb3.size)))
            clear hw2 hb3 A0 A1 s0 s1 s2 hsl m0 m1 hml
            have HB3 := HB4
            clear HB4
            go_wp2
            first | with_reducible refine wp_region_ext2 (by kernel_rfl) (by kernel_rfl) ?_ | refine wp_region_ext (by kernel_rfl) (by kernel_rfl) ?_
            repeat (go_big_quiet_step (first | (go_at_call 24; with_reducible exact Calls.ext_of (B0.out _ (by (repeat (first | with_reducible exact Below.rf _ | with_reducible exact World.below_ext _ _ | with_reducible refine Below.ex ?_ _ | with_reducible refine Below.al ?_ _ | with_reducible refine Below.setCell ?_ (by simp) _ | with_reducible refine Below.drew ?_))))) | (go_at_call 24; with_reducible exact Calls.ext_of (B1.out _ (by (repeat (first | with_reducible exact Below.rf _ | with_reducible exact World.below_ext _ _ | with_reducible refine Below.ex ?_ _ | with_reducible refine Below.al ?_ _ | with_reducible refine Below.setCell ?_ (by simp) _ | with_reducible refine Below.drew ?_)))))))
            refine wpQuiet_nil ?_
            rintro w4 ⟨z, hw2⟩
            have HB4 : Hid (Below w2.heap.size w2 w4) := HB3.out.trans (Below.mono (by rw [hw2]; exact World.below_ext w3 _) HB3.out.size)
            clear hw2
            go_wp2
            go_ret
            exact ⟨by rw [← HEQ.out]; rfl, (HB2.out.trans (HB4.out.mono HB2.out.size)).is_ext⟩
          · have d5 : (v0 == pv) = false := by simp [e5]
            rw [if_neg (fun e => by simp [e1, e5] at e)] at heq
            have HEQ : Hid (T.blkF q pv (k + 1) (nb - (k + 1)) = res) := by rw [hj2]; exact heq
            clear heq hkr hj hj2 hvv0 hvv1 e1 e2 e3 e4 e5
            go_wp2_with (first | (go_at_call 23; refine (RO.out _ (by (repeat (first | with_reducible exact Below.rf _ | with_reducible exact World.below_ext _ _ | with_reducible refine Below.ex ?_ _ | with_reducible refine Below.al ?_ _ | with_reducible refine Below.setCell ?_ (by simp) _ | with_reducible refine Below.drew ?_)))).mono ?_; rintro e w' ⟨rfl, hw'⟩; obtain rfl := hw'.symm))
            first | with_reducible refine wp_region_ext2 (by kernel_rfl) (by kernel_rfl) ?_ | refine wp_region_ext (by kernel_rfl) (by kernel_rfl) ?_
            repeat (go_big_quiet_step ((go_at_call 24; with_reducible exact Calls.ext_of (A0.out _ (by (repeat (first | with_reducible exact Below.rf _ | with_reducible exact World.below_ext _ _ | with_reducible refine Below.ex ?_ _ | with_reducible refine Below.al ?_ _ | with_reducible refine Below.setCell ?_ (by simp) _ | with_reducible refine Below.drew ?_)))))))
            refine wpQuiet_nil ?_
            rintro w3 ⟨z, hw2⟩
            have hb3 : Below wr.heap.size wr w3 := by rw [hw2]; exact World.below_ext wr z
            have HB4 : Hid (Below w2.heap.size w2 w3) := HB.out.trans (hb3.mono HB.out.size)
            have s1' := (World.cell?_of_block (hb3.block sb hsl)).trans s1
            have s2' := (World.cell?_of_block (hb3.block sb hsl)).trans s2
            have m1' := (hMB.below hb3).c1
            have hsl' := Nat.lt_of_lt_of_le hsl hb3.size
            have hml' := (hMB.below hb3).lt
            have B0 := hid (fun (w' : World) (h : Below w3.heap.size w3 w') => A0.out w' (hb3.trans (h.mono hb3.size)))
            have B1 := hid (fun (w' : World) (h : Below w3.heap.size w3 w') => A1.out w' (hb3.trans (h.mono hb3.size)))
            clear hw2 hb3 A0 A1 s0 s1 s2 hsl m0 m1 hml
            have HB3 := HB4
            clear HB4
            go_wp2
            first | with_reducible refine wp_region_ext2 (by kernel_rfl) (by kernel_rfl) ?_ | refine wp_region_ext (by kernel_rfl) (by kernel_rfl) ?_
            repeat (go_big_quiet_step (first | (go_at_call 24; with_reducible exact Calls.ext_of (B0.out _ (by (repeat (first | with_reducible exact Below.rf _ | with_reducible exact World.below_ext _ _ | with_reducible refine Below.ex ?_ _ | with_reducible refine Below.al ?_ _ | with_reducible refine Below.setCell ?_ (by simp) _ | with_reducible refine Below.drew ?_))))) | (go_at_call 24; with_reducible exact Calls.ext_of (B1.out _ (by (repeat (first | with_reducible exact Below.rf _ | with_reducible exact World.below_ext _ _ | with_reducible refine Below.ex ?_ _ | with_reducible refine Below.al ?_ _ | with_reducible refine Below.setCell ?_ (by simp) _ | with_reducible refine Below.drew ?_)))))))
            refine wpQuiet_nil ?_
            rintro w4 ⟨z, hw2⟩
            have HB4 : Hid (Below w2.heap.size w2 w4) := HB3.out.trans (Below.mono (by rw [hw2]; exact World.below_ext w3 _) HB3.out.size)
            clear hw2
            go_wp2
            go_roundw
            case rel => exact ⟨k + 1, by go_num, by omega, HEQ.out, HB4.out⟩
            case measure => (simp [intOf] <;> omega)
        · have d4 : (v1 == q.s) = false := by simp [e4]
          rw [if_neg (fun e => by simp [e1, e4] at e)] at heq
          have HEQ : Hid (T.blkF q pv (k + 1) (nb - (k + 1)) = res) := by rw [hj2]; exact heq
          clear heq hkr hj hj2 hvv0 hvv1 e1 e2 e3 e4
          go_wp2_with (first | (go_at_call 23; refine (RO.out _ (by (repeat (first | with_reducible exact Below.rf _ | with_reducible exact World.below_ext _ _ | with_reducible refine Below.ex ?_ _ | with_reducible refine Below.al ?_ _ | with_reducible refine Below.setCell ?_ (by simp) _ | with_reducible refine Below.drew ?_)))).mono ?_; rintro e w' ⟨rfl, hw'⟩; obtain rfl := hw'.symm))
          first | with_reducible refine wp_region_ext2 (by kernel_rfl) (by kernel_rfl) ?_ | refine wp_region_ext (by kernel_rfl) (by kernel_rfl) ?_
          repeat (go_big_quiet_step ((go_at_call 24; with_reducible exact Calls.ext_of (A0.out _ (by (repeat (first | with_reducible exact Below.rf _ | with_reducible exact World.below_ext _ _ | with_reducible refine Below.ex ?_ _ | with_reducible refine Below.al ?_ _ | with_reducible refine Below.setCell ?_ (by simp) _ | with_reducible refine Below.drew ?_)))))))
          refine wpQuiet_nil ?_
          rintro w3 ⟨z, hw2⟩
          have hb3 : Below wr.heap.size wr w3 := by rw [hw2]; exact World.below_ext wr z
          have HB4 : Hid (Below w2.heap.size w2 w3) := HB.out.trans (hb3.mono HB.out.size)
          have s1' := (World.cell?_of_block (hb3.block sb hsl)).trans s1
          have s2' := (World.cell?_of_block (hb3.block sb hsl)).trans s2
          have m1' := (hMB.below hb3).c1
          have hsl' := Nat.lt_of_lt_of_le hsl hb3.size
          have hml' := (hMB.below hb3).lt
          have B0 := hid (fun (w' : World) (h : Below w3.heap.size w3 w') => A0.out w' (hb3.trans (h.mono hb3.size)))
          have B1 := hid (fun (w' : World) (h : Below w3.heap.size w3 w') => A1.out w' (hb3.trans (h.mono hb3.size)))
          clear hw2 hb3 A0 A1 s0 s1 s2 hsl m0 m1 hml
          have HB3 := HB4
          clear HB4
          go_wp2
          first | with_reducible refine wp_region_ext2 (by kernel_rfl) (by kernel_rfl) ?_ | refine wp_region_ext (by kernel_rfl) (by kernel_rfl) ?_
          repeat (go_big_quiet_step (first | (go_at_call 24; with_reducible exact Calls.ext_of (B0.out _ (by (repeat (first | with_reducible exact Below.rf _ | with_reducible exact World.below_ext _ _ | with_reducible refine Below.ex ?_ _ | with_reducible refine Below.al ?_ _ | with_reducible refine Below.setCell ?_ (by simp) _ | with_reducible refine Below.drew ?_))))) | (go_at_call 24; with_reducible exact Calls.ext_of (B1.out _ (by (repeat (first | with_reducible exact Below.rf _ | with_reducible exact World.below_ext _ _ | with_reducible refine Below.ex ?_ _ | with_reducible refine Below.al ?_ _ | with_reducible refine Below.setCell ?_ (by simp) _ | with_reducible refine Below.drew ?_)))))))
          refine wpQuiet_nil ?_
          rintro w4 ⟨z, hw2⟩
          have HB4 : Hid (Below w2.heap.size w2 w4) := HB3.out.trans (Below.mono (by rw [hw2]; exact World.below_ext w3 _) HB3.out.size)
          clear hw2
          go_wp2
          go_roundw
          case rel => exact ⟨k + 1, by go_num, by omega, HEQ.out, HB4.out⟩
          case measure => (simp [intOf] <;> omega)
    · have dk : decide ((k : Int) < (nb : Int)) = false := by simp; omega
      have dkn : decide (k < nb) = false := by simp; omega
      rw [show nb - k = 0 by omega, TS.blkF] at heq
      have HEQ := hid heq
      clear heq hMB
      go_wp2_with (first | (go_at_call 23; refine (RO.out _ (by (repeat (first | with_reducible exact Below.rf _ | with_reducible exact World.below_ext _ _ | with_reducible refine Below.ex ?_ _ | with_reducible refine Below.al ?_ _ | with_reducible refine Below.setCell ?_ (by simp) _ | with_reducible refine Below.drew ?_)))).mono ?_; rintro e w' ⟨rfl, hw'⟩; obtain rfl := hw'.symm))
      go_ret
      exact ⟨by rw [← HEQ.out]; rfl, (HB2.out.trans (HB.out.mono HB2.out.size)).is_ext⟩
end Go.Proofs.Qxb6500716a
