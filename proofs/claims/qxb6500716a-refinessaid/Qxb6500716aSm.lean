/-
  Same: two tables that hold the same.
-/
import Derived.Test.Qxb6500716aPy
namespace Go.Proofs.Qxb6500716a
open Go.RowKit Go.Maps
set_option linter.unusedSimpArgs false
set_option linter.unusedVariables false
set_option maxRecDepth 20000
set_option maxHeartbeats 4000000
theorem eq115 (w : World) (a b c d a' b' c' d' : Int) : (Op.equalIn 10000 115 (.agg #[.int .i64 (a), .int .i64 (b), .int .i64 (c), .int .i64 (d)]) (.agg #[.int .i64 (a'), .int .i64 (b'), .int .i64 (c'), .int .i64 (d')])).run Try.prog w = .ok ((a == a') && ((b == b') && ((c == c') && (d == d')))) w := by
  rw [run_equalIn_struct w 9999 115 _ _ (by kernel_rfl) (by kernel_rfl)]
  have e : ∀ u v : Int, (Op.equalIn 9999 3 (.int .i64 (u)) (.int .i64 (v))).run Try.prog w = .ok (u == v) w := fun u v => run_equalIn_int w 9998 3 .i64 .i64 u v Try.underlying3
  have hf : (Try.prog.fieldsOf 115).toList = (Try.prog.fieldsOf 115).toList := rfl
  conv at hf => rhs; whnf
  rw [hf]
  cases h1 : (a == a') <;> cases h2 : (b == b') <;> cases h3 : (c == c') <;> cases h4 : (d == d') <;> simp [Op.eqFields, e, part, go_sem, h1, h2, h3, h4]
set_option maxHeartbeats 4000000 in
theorem same_yes (M M2 : TM) (T : TS) (lab lab2 : Nat → Nat) (w : World) (h : TAt w lab M T) (h2 : TAt w lab2 M2 T) :
    Calls Try.prog 18 #[.pointer (some ⟨M.t, 0, none⟩), .pointer (some ⟨M2.t, 0, none⟩)] w fun e w' => e = .returned (.bool true) ∧ ∃ z, w' = w.ext z := by
  have HH := hid h
  have HH2 := hid h2
  have c3 := h.c3
  have c4 := h.c4
  have c5 := h.c5
  have k3 := h2.c3
  have k4 := h2.c4
  have k5 := h2.c5
  have hlt := h.bt.lt
  have hlt2 := h2.bt.lt
  obtain ⟨ao, cap, hv⟩ := h.bs.val
  obtain ⟨ao2, cap2, hv2⟩ := h2.bs.val
  have hln := h.ln
  have hcn := h.cn
  rw [hv] at c5
  rw [hv2] at k5
  have HV := hid hv
  have HV2 := hid hv2
  obtain ⟨n, hn⟩ : ∃ n, T.sp.length = n := ⟨_, rfl⟩
  rw [hn] at c5 k5 hln HV HV2
  have HN := hid hn
  have l1 := fun (z : World) (ty : TypeId) => (h.bm.below (World.below_ext w z)).len ty
  have l2 := fun (z : World) (ty : TypeId) => (h2.bm.below (World.below_ext w z)).len ty
  obtain ⟨cm, hcm⟩ : ∃ y, cntM T.tm = y := ⟨_, rfl⟩
  rw [hcm] at l1 l2 hcn
  have dn : ((n : Int) != (n : Int)) = false := by simp
  have dc : ((cm : Int) != (cm : Int)) = false := by simp
  have db : ((T.base : Int) != (T.base : Int)) = false := by simp
  clear hn hv hv2 h h2 hcm
  go_enter Try.func18, Try.ntmps18
  go_wp2
  first | with_reducible refine wp_region_ext2 (by kernel_rfl) (by kernel_rfl) ?_ | refine wp_region_ext (by kernel_rfl) (by kernel_rfl) ?_
  repeat (go_big_quiet_step (fail))
  refine wpQuiet_nil ?_
  rintro w1 ⟨z, hw2⟩
  have hb1 : Below w.heap.size w w1 := by rw [hw2]; exact World.below_ext w z
  have HB1 := hid hb1
  have HT1 := hid (HH.out.below hb1)
  have HU1 := hid (HH2.out.below hb1)
  have c4' := HT1.out.c4
  have hlt' := HT1.out.bt.lt
  obtain ⟨D, hown, hMI⟩ := HT1.out.bm
  have HMI := hid hMI
  clear hw2 hb1 l1 l2 c3 c4 c5 k3 k4 k5 hlt hlt2 hMI
  go_wp2_with (first | (at_range; refine wpList_range_own _ rfl _ 109 rfl 113 3 law113 Try.underlying109 _ M.m _ D rfl hown ?_; intro w0 hrg0 hg0 hs0) | go_in)
  go_frame
  have hB0 : Below w1.heap.size w1 w0 := ⟨hg0.os, hg0.tape, hg0.output, by omega, fun k hk => hg0.block k hk (by simp)⟩
  have HB0 := hid hB0
  clear hB0 c4'
  go_loopw [] (fun wr => ∃ (left : Lit → Bool) (cnt : Nat), wr.ranges Try.prog 113 (plainElem Try.prog 3) M.m w1.heap.size (Maps.size D) D left cnt ∧ Below w1.heap.size w1 wr)
    (fun wr => wr.rangeLeft M.m w1.heap.size)
  case atStart => exact ⟨_, _, hrg0, HB0.out⟩
  case round =>
    obtain ⟨left, cnt, hrg, hB⟩ := hrel
    have HB := hid hB
    have HT := hid (HT1.out.below hB)
    have HU := hid (HU1.out.below hB)
    have c5' := HT.out.c5
    rw [HV.out] at c5'
    have k4' := HU.out.c4
    have hlt1 := HT.out.bt.lt
    have hlt2 := HU.out.bt.lt
    have hsz := hB.size
    clear hB
    go_wp2_with (first | (at_next; refine wpList_next_tm _ rfl _ rfl M.m w1.heap.size _ _ T.tm _ _ rfl hrg HMI ?_ ?_) | go_in)
    · --BEGIN 1
      intro hc0 hl0
      clear hc0 hl0 HB0 hrg0 hg0 hs0 hrg
      go_wp2
      obtain ⟨wq, rfl⟩ : ∃ y, y = wr := ⟨_, rfl⟩
      go_loopw [80] (fun v wr => ∃ k : Nat, v = .int .i64 (k) ∧ k ≤ n ∧ Below w1.heap.size w1 wr) (fun v _ => n - (intOf v).toNat)
      case atStart => exact ⟨0, rfl, Nat.zero_le _, HB.out⟩
      case round =>
        obtain ⟨k, rfl, hk, hB⟩ := hrel
        clear c5' k4' hlt1 hlt2 hsz HT HU HB
        have HB := hid hB
        have HT := hid (HT1.out.below hB)
        have HU := hid (HU1.out.below hB)
        have k5' := HU.out.c5
        rw [HV2.out] at k5'
        have hlt2 := HU.out.bt.lt
        clear hB
        by_cases hkn : k < n
        · have dk : decide ((k : Int) < (n : Int)) = true := by simp; omega
          have dkn : decide (k < n) = true := by simp; omega
          have hkl : k < T.sp.length := by rw [HN.out]; exact hkn
          have hx : T.sp[k]? = some T.sp[k] := List.getElem?_eq_getElem hkl
          generalize T.sp[k] = x at *
          obtain ⟨b, cap', hv, hlc, hbl, q1, q2, q3, q4⟩ := HT.out.span k x hx
          rw [HV.out, HN.out] at hv
          simp only [Value.slice.injEq] at hv
          obtain ⟨rfl, -, rfl⟩ := hv
          rw [HN.out] at hlc
          have HX := hid hx
          clear hx
          go_wp2
          refine wp_nm fun w3 hw3 => ?_
          obtain ⟨sb, hsb⟩ : ∃ y, wr.heap.size = y := ⟨_, rfl⟩
          have hb3 : Below wr.heap.size wr w3 := by rw [hw3]; (repeat (first | with_reducible exact Below.rf _ | with_reducible exact World.below_ext _ _ | with_reducible refine Below.ex ?_ _ | with_reducible refine Below.al ?_ _ | with_reducible refine Below.setCell ?_ (by simp) _ | with_reducible refine Below.drew ?_))
          have s0 : w3.cell? ⟨wr.heap.size, 0, none⟩ = some (.int .i64 (x.r)) := by rw [hw3]; simp [go_sem, ↓IntWalk.iteOmega]
          have s1 : w3.cell? ⟨wr.heap.size, 1, none⟩ = some (.int .i64 (x.c)) := by rw [hw3]; simp [go_sem, ↓IntWalk.iteOmega]
          have s2 : w3.cell? ⟨wr.heap.size, 2, none⟩ = some (.int .i64 (x.f)) := by rw [hw3]; simp [go_sem, ↓IntWalk.iteOmega]
          have s3 : w3.cell? ⟨wr.heap.size, 3, none⟩ = some (.int .i64 (x.u)) := by rw [hw3]; simp [go_sem, ↓IntWalk.iteOmega]
          have hsl : wr.heap.size < w3.heap.size := by rw [hw3]; simp
          rw [hsb] at s0 s1 s2 s3 hsl ⊢
          have HB3 : Hid (Below w1.heap.size w1 w3) := HB.out.trans (hb3.mono HB.out.size)
          obtain ⟨wq2, rfl⟩ : ∃ y, y = wr := ⟨_, rfl⟩
          clear hw3 hb3 q1 q2 q3 q4 hbl HT HU HB k5' hlt2 hsb
          go_loopw [11, 89] (fun y v wr => ∃ (fb : Bool) (j : Nat), y = .bool fb ∧ v = .int .i64 (j) ∧ j ≤ n ∧ (k < j → fb = true) ∧ Below w3.heap.size w3 wr) (fun _ v _ => n - (intOf v).toNat)
          case atStart => exact ⟨false, 0, rfl, rfl, Nat.zero_le _, fun h => by omega, Below.rf _⟩
          case round =>
            obtain ⟨fb, j, rfl, rfl, hj, hfb, hB⟩ := hrel
            have HFB := hid hfb
            have HB := hid hB
            have HBB : Hid (Below w1.heap.size w1 wr) := HB3.out.trans (hB.mono HB3.out.size)
            have HU := hid (HU1.out.below HBB.out)
            have s0' := (World.cell?_of_block (hB.block sb hsl)).trans s0
            have s1' := (World.cell?_of_block (hB.block sb hsl)).trans s1
            have s2' := (World.cell?_of_block (hB.block sb hsl)).trans s2
            have s3' := (World.cell?_of_block (hB.block sb hsl)).trans s3
            have hsl' := Nat.lt_of_lt_of_le hsl hB.size
            clear hB hfb
            by_cases hjn : j < n
            · have dj : decide ((j : Int) < (n : Int)) = true := by simp; omega
              have djn : decide (j < n) = true := by simp; omega
              have hjl : j < T.sp.length := by rw [HN.out]; exact hjn
              have hy : T.sp[j]? = some T.sp[j] := List.getElem?_eq_getElem hjl
              generalize T.sp[j] = y at *
              obtain ⟨b2, cap3, hv3, hlc3, hbl3, r1, r2, r3, r4⟩ := HU.out.span j y hy
              rw [HV2.out, HN.out] at hv3
              simp only [Value.slice.injEq] at hv3
              obtain ⟨rfl, -, rfl⟩ := hv3
              rw [HN.out] at hlc3
              have HY := hid hy
              clear hy hjl
              cases fb with
              | true =>
                go_wp2
                go_roundw
                case rel => exact ⟨true, j + 1, rfl, by go_num, by omega, fun _ => rfl, HB.out.trans (Below.mono (by (repeat (first | with_reducible exact Below.rf _ | with_reducible exact World.below_ext _ _ | with_reducible refine Below.ex ?_ _ | with_reducible refine Below.al ?_ _ | with_reducible refine Below.setCell ?_ (by simp) _ | with_reducible refine Below.drew ?_))) HB.out.size)⟩
                case measure => (simp [intOf] <;> omega)
              | false =>
                have EQ := fun (w' : World) => eq115 w' x.r x.c x.f x.u y.r y.c y.f y.u
                obtain ⟨rb, hrb⟩ : ∃ z, (((x.r : Int) == y.r) && (((x.c : Int) == y.c) && (((x.f : Int) == y.f) && ((x.u : Int) == y.u)))) = z := ⟨_, rfl⟩
                rw [hrb] at EQ
                have HRB := hid hrb
                clear hrb
                go_wp2
                go_roundw
                case rel =>
                  refine ⟨rb, j + 1, rfl, by go_num, by omega, fun hkj => ?_, HB.out.trans (Below.mono (by (repeat (first | with_reducible exact Below.rf _ | with_reducible exact World.below_ext _ _ | with_reducible refine Below.ex ?_ _ | with_reducible refine Below.al ?_ _ | with_reducible refine Below.setCell ?_ (by simp) _ | with_reducible refine Below.drew ?_))) HB.out.size)⟩
                  by_cases e : k < j
                  · have := HFB.out e
                    cases this
                  · obtain rfl : k = j := by omega
                    have := Option.some.inj (HX.out.symm.trans HY.out)
                    rw [← HRB.out, this]
                    simp
                case measure => (simp [intOf] <;> omega)
            · have dj : decide ((j : Int) < (n : Int)) = false := by simp; omega
              have djn : decide (j < n) = false := by simp; omega
              obtain rfl : fb = true := HFB.out (by omega)
              go_wp2
              go_roundw
              case rel => exact ⟨k + 1, by go_num, by omega, HBB.out⟩
              case measure => (simp [intOf] <;> omega)
        · have dk : decide ((k : Int) < (n : Int)) = false := by simp; omega
          have dkn : decide (k < n) = false := by simp; omega
          go_wp2
          go_ret
          exact ⟨rfl, (HB1.out.trans (HB.out.mono HB1.out.size)).is_ext⟩
      --END 1
    · --BEGIN 2
      intro a b x w2 cnt1 ia ib htm hleft hrg1 hlt3 hg1 hs1 hen
      have hB2 : Below w1.heap.size w1 w2 := HB.out.grown hg1 HB.out.size (fun k hk => by cases hk; exact Nat.le_refl _)
      have HB2 := hid hB2
      have HI := hid (And.intro ia ib)
      have HTM := hid htm
      have HU2 := hid (HU1.out.below hB2)
      have k42 := HU2.out.c4
      have hlt4 := HU2.out.bt.lt
      have dx : (x != x) = false := by simp
      clear hB2 hleft htm ia ib hg1 c5' k4' hlt1 hlt2
      go_wp2
      refine wp_nm fun w5 hw5 => ?_
      have hb5 : Below w2.heap.size w2 w5 := by rw [hw5]; (repeat (first | with_reducible exact Below.rf _ | with_reducible exact World.below_ext _ _ | with_reducible refine Below.ex ?_ _ | with_reducible refine Below.al ?_ _ | with_reducible refine Below.setCell ?_ (by simp) _ | with_reducible refine Below.drew ?_))
      have hrg5 : w5.ranges Try.prog 113 (plainElem Try.prog 3) M.m w1.heap.size (Maps.size D) D (fun z => left z && !z.sameKey (key2 a b)) cnt1 := by
        rw [hw5]
        exact hrg1.kept (World.grownBy_alloc _ _ none) (by simp) (by simp)
      have a0 : w5.cell? ⟨w2.heap.size, 0, none⟩ = some (.int .i64 (a)) := by rw [hw5]; simp [go_sem, ↓IntWalk.iteOmega]
      have a1 : w5.cell? ⟨w2.heap.size, 1, none⟩ = some (.int .i64 (b)) := by rw [hw5]; simp [go_sem, ↓IntWalk.iteOmega]
      have hal : w2.heap.size < w5.heap.size := by rw [hw5]; simp
      rw [hs1] at a0 a1 hal
      have k45 := (World.cell?_of_block (hb5.block M2.t hlt4)).trans k42
      have hlt5 := Nat.lt_of_lt_of_le hlt4 hb5.size
      have LK := fun (z : World) => (HU2.out.bm.below (hb5.trans ((World.below_ext w5 z).mono hb5.size))).look HI.out.1 HI.out.2
      simp only [HTM.out, Option.getD_some, Option.isSome_some] at LK
      have HRG5 := hid hrg5
      have HB5 : Hid (Below w1.heap.size w1 w5) := HB2.out.trans (hb5.mono HB2.out.size)
      clear hw5 hb5 k42 hlt4 hrg5 hrg1 hen
      go_wp2
      first | with_reducible refine wp_region_ext2 (by kernel_rfl) (by kernel_rfl) ?_ | refine wp_region_ext (by kernel_rfl) (by kernel_rfl) ?_
      repeat (go_big_quiet_step (fail))
      refine wpQuiet_nil ?_
      rintro w6 ⟨z, hw2⟩
      have HB6 : Hid (Below w1.heap.size w1 w6) := HB5.out.trans (Below.mono (by rw [hw2]; exact World.below_ext w5 _) HB5.out.size)
      have HRG6 : Hid (w6.ranges Try.prog 113 (plainElem Try.prog 3) M.m w1.heap.size (Maps.size D) D (fun z => left z && !z.sameKey (key2 a b)) cnt1) := by
        unfold Hid
        have hb6 : Below w5.heap.size w5 w6 := by rw [hw2]; exact World.below_ext w5 _
        have hrl := HRG5.out.lt
        have hml : M.m < w5.heap.size := Nat.lt_of_lt_of_le HT1.out.bm.lt HB5.out.size
        obtain ⟨es, clock, since, seen, cc0, g1, g2, g3, g4, g5, g6⟩ := HRG5.out
        exact ⟨es, clock, since, seen, cc0, (hb6.block _ hml).trans g1, g2, g3, g4, (hb6.block _ hrl).trans g5, g6⟩
      clear hw2 LK
      go_wp2
      go_roundw
      case rel => exact ⟨_, cnt1, HRG6.out, HB6.out⟩
      case measure => rw [HRG6.out.left_eq, hrg.left_eq]; omega
      --END 2
end Go.Proofs.Qxb6500716a
