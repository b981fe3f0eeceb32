/-
  holder: the walk.
-/
import Derived.Test.Qxb6500717aGreatAt
namespace Go.Proofs.Qxb6500717aGreat
open Go.RowKit
set_option linter.unusedSimpArgs false
set_option linter.unusedVariables false

theorem spOn_cons (x : Nat × Nat × Nat) (l : List (Nat × Nat × Nat)) (c : Nat) (t : Int) : spOn (x :: l) c t = if x.1 = c ∧ cov x t = true then true else spOn l c t := by
  simp [spOn, cov]


set_option maxRecDepth 20000 in
set_option maxHeartbeats 4000000 in
theorem hold_any (M : TabM) (T : TabS) (lab : Nat → Nat) (c : Nat) (t : Int) (w : World) (h : TAt w lab M T) (hc : c < T.nc) :
    Calls Tryz.prog 70 #[.pointer (some ⟨M.t, 0, none⟩), .int .i64 (c), .int .i64 (t)] w fun e w' => e = .returned (.int .i64 (T.hold c t)) ∧ ∃ z, w' = w.ext z := by
  have IW := hid (inWindow_any M T lab t w h)
  have HH := hid h
  have c0 := h.c0
  have c5 := h.c5
  have c7 := h.c7
  have hl1 := h.bt.lt
  have hl2 := h.bg.lt
  have hnr := h.bd.nr
  have hnc := h.bd.nc
  unfold TabS.hold
  cases hw : T.win t with
  | false =>
    rw [if_neg (by simp)]
    rw [hw] at IW
    clear h hw
    go_enter Tryz.func70, Tryz.ntmps70
    go_wp2_with (go_at_call 86; refine IW.out.mono ?_; rintro e w ⟨rfl, rfl⟩)
    go_loopw [40] (fun x wr => ∃ k : Nat, x = .int .i64 (k) ∧ k ≤ T.nr ∧ T.spBy c t k (T.nr - k) = T.spBy c t 0 T.nr ∧ Below w.heap.size w wr) (fun x _ => T.nr - (intOf x).toNat)
    case atStart => exact ⟨0, rfl, Nat.zero_le _, rfl, by (repeat (first | with_reducible exact Below.rf _ | with_reducible exact World.below_ext _ _ | with_reducible refine Below.ex ?_ _ | with_reducible refine Below.al ?_ _ | with_reducible refine Below.setCell ?_ (by simp) _ | with_reducible refine Below.drew ?_))⟩
    case round =>
      obtain ⟨k, rfl, hk, heq, hB⟩ := hrel
      have HB := hid hB
      have hsz := hB.size
      by_cases hlt : k < T.nr
      · have hT := HH.out.below hB
        have cs := hT.bs.is k hlt
        have hl3 := hT.bs.lt
        have hsp := hT.bsr k hlt
        have HSP := hid hsp
        obtain ⟨ao, cap, hv⟩ := hsp.val
        obtain ⟨n, hn⟩ : ∃ n, (T.sp k).length = n := ⟨_, rfl⟩
        have hn2 := hT.bd.ln k hlt
        rw [hn] at hv hn2
        rw [hv] at cs HSP
        have HNN := hid hn
        have bk : decide ((k : Int) < T.nr) = true := by simp; omega
        have hst : T.spBy c t k (T.nr - k) = if spOn (T.sp k) c t then (k : Int) else T.spBy c t (k + 1) (T.nr - (k + 1)) := by
          rw [show T.nr - k = T.nr - (k + 1) + 1 by omega]; rfl
        rw [hst] at heq
        have HEQ := hid heq
        clear hB hT hsp hv hn heq hst
        go_wp2
        go_loopw [47] (fun y w2 => ∃ j : Nat, y = .int .i64 (j) ∧ j ≤ n ∧ spOn ((T.sp k).drop j) c t = spOn (T.sp k) c t ∧ Below wr.heap.size wr w2) (fun y _ => n - (intOf y).toNat)
        case atStart => exact ⟨0, rfl, Nat.zero_le _, rfl, by (repeat (first | with_reducible exact Below.rf _ | with_reducible exact World.below_ext _ _ | with_reducible refine Below.ex ?_ _ | with_reducible refine Below.al ?_ _ | with_reducible refine Below.setCell ?_ (by simp) _ | with_reducible refine Below.drew ?_))⟩
        case round =>
          obtain ⟨j, rfl, hj, heq2, hB2⟩ := hrel
          have HB2 := hid hB2
          have hsz2 := hB2.size
          by_cases hlj : j < n
          · have hkl : j < (T.sp k).length := by rw [HNN.out]; exact hlj
            have hx : (T.sp k)[j]? = some (T.sp k)[j] := List.getElem?_eq_getElem hkl
            have hdr : (T.sp k).drop j = (T.sp k)[j] :: (T.sp k).drop (j + 1) := List.drop_eq_getElem_cons hkl
            generalize (T.sp k)[j] = x at *
            obtain ⟨b, cap', hv, hlc, hbl, q1, q2, q3⟩ := (HSP.out.of hsz2 (fun b' hb' _ => hB2.block b' hb')).at j x hx
            simp only [Value.slice.injEq] at hv
            obtain ⟨rfl, -, rfl⟩ := hv
            rw [HNN.out] at hlc
            rw [show 3 * j = j * 3 by omega] at q1 q2 q3
            have CV := hid (fun w' => covers_any x t w')
            have bj : decide ((j : Int) < n) = true := by simp; omega
            rw [hdr, spOn_cons] at heq2
            have HE2 := hid heq2
            by_cases hxc : x.1 = c
            · have bx : ((x.1 : Int) == c) = true := by simp; omega
              cases hcv : cov x t with
              | true =>
                rw [hcv] at CV
                rw [hcv, if_pos ⟨hxc, rfl⟩] at HE2
                have HE3 := HEQ.out
                rw [← HE2.out, if_pos rfl] at HE3
                have HE4 := hid HE3
                clear hB2 heq2 hdr hx hcv hxc HE3
                go_wp2_with (go_at_call 87; refine (CV.out _).mono ?_; rintro e w' ⟨rfl, z1, rfl⟩)
                go_ret
                refine ⟨ret_int HE4.out, ?_⟩
                refine Below.is_ext ?_
                refine HB.out.trans (Below.mono (HB2.out.trans (Below.mono ?_ HB2.out.size)) HB.out.size)
                (repeat (first | with_reducible exact Below.rf _ | with_reducible exact World.below_ext _ _ | with_reducible refine Below.ex ?_ _ | with_reducible refine Below.al ?_ _ | with_reducible refine Below.setCell ?_ (by simp) _ | with_reducible refine Below.drew ?_))
              | false =>
                rw [hcv] at CV
                rw [hcv, if_neg (by simp)] at HE2
                clear hB2 heq2 hdr hx hcv hxc
                go_wp2_with (go_at_call 87; refine (CV.out _).mono ?_; rintro e w' ⟨rfl, z1, rfl⟩)
                go_roundw
                case rel =>
                  refine ⟨j + 1, by go_num, by omega, HE2.out, ?_⟩
                  refine HB2.out.trans (Below.mono ?_ HB2.out.size)
                  (repeat (first | with_reducible exact Below.rf _ | with_reducible exact World.below_ext _ _ | with_reducible refine Below.ex ?_ _ | with_reducible refine Below.al ?_ _ | with_reducible refine Below.setCell ?_ (by simp) _ | with_reducible refine Below.drew ?_))
                case measure => simp [intOf]; omega
            · have bx : ((x.1 : Int) == c) = false := by simp; omega
              rw [if_neg (fun h => hxc h.1)] at HE2
              clear hB2 heq2 hdr hx hxc
              go_wp2
              go_roundw
              case rel =>
                refine ⟨j + 1, by go_num, by omega, HE2.out, ?_⟩
                refine HB2.out.trans (Below.mono ?_ HB2.out.size)
                (repeat (first | with_reducible exact Below.rf _ | with_reducible exact World.below_ext _ _ | with_reducible refine Below.ex ?_ _ | with_reducible refine Below.al ?_ _ | with_reducible refine Below.setCell ?_ (by simp) _ | with_reducible refine Below.drew ?_))
              case measure => simp [intOf]; omega
          · rw [List.drop_eq_nil_of_le (by rw [HNN.out]; omega)] at heq2
            have HE3 := HEQ.out
            rw [← heq2, if_neg (by simp [spOn])] at HE3
            have HE4 := hid HE3
            clear hB2 heq2 HE3
            go_wp2
            go_roundw
            case rel => exact ⟨k + 1, by go_num, by omega, HE4.out, HB.out.trans (Below.mono HB2.out HB.out.size)⟩
            case measure => simp [intOf]; omega
      · rw [show T.nr - k = 0 by omega] at heq
        have HE2 := hid heq
        clear hB heq
        go_wp2
        go_ret
        exact ⟨ret_int HE2.out, HB.out.is_ext⟩
  | true =>
    rw [hw] at IW
    have hwn := hw
    unfold TabS.win at hwn
    simp at hwn
    have hbb := h.bd.base
    obtain ⟨tn, rfl⟩ : ∃ tn : Nat, t = tn := ⟨t.toNat, by omega⟩
    have hand := and255 tn (by omega)
    rw [Int.toNat_natCast]
    obtain ⟨sl, hsl⟩ : ∃ sl, tn % 256 = sl := ⟨_, rfl⟩
    have hsl2 : sl < 256 := by omega
    rw [hsl] at hand ⊢
    obtain ⟨mm, hmm⟩ : ∃ mm, sl * T.nc = mm := ⟨_, rfl⟩
    have hm2 : mm + c < 256 * T.nc := by
      have h1 := Nat.mul_le_mul_right T.nc (show sl + 1 ≤ 256 by omega)
      rw [Nat.add_mul, Nat.one_mul, hmm] at h1
      omega
    have e1 : (sl : Int) * (T.nc : Int) = mm := by rw [← hmm]; exact (Int.natCast_mul _ _).symm
    rw [hmm]
    have cq := h.bg.is (mm + c) hm2
    have hpb := h.bd.gr (mm + c) hm2
    obtain ⟨pv, hpv⟩ : ∃ pv, T.gr (mm + c) = pv := ⟨_, rfl⟩
    rw [hpv] at cq hpb ⊢
    by_cases hm : pv = 0
    · rw [if_neg (fun h => h.2 hm)]
      rw [hm] at cq
      obtain ⟨t, ht⟩ : ∃ t : Int, (tn : Int) = t := ⟨_, rfl⟩
      rw [ht] at IW hand ⊢
      clear h hw hwn hpv hm hsl ht hpb hmm
      go_enter Tryz.func70, Tryz.ntmps70
      go_wp2_with (go_at_call 86; refine IW.out.mono ?_; rintro e w ⟨rfl, rfl⟩)
      first | with_reducible refine wp_region_ext2 (by kernel_rfl) (by kernel_rfl) ?_ | refine wp_region_ext (by kernel_rfl) (by kernel_rfl) ?_
      repeat (go_big_quiet_step (fail))
      refine wpQuiet_nil ?_
      rintro _ ⟨z, rfl⟩
      go_wp2
      go_loopw [40] (fun x wr => ∃ k : Nat, x = .int .i64 (k) ∧ k ≤ T.nr ∧ T.spBy c t k (T.nr - k) = T.spBy c t 0 T.nr ∧ Below w.heap.size w wr) (fun x _ => T.nr - (intOf x).toNat)
      case atStart => exact ⟨0, rfl, Nat.zero_le _, rfl, by (repeat (first | with_reducible exact Below.rf _ | with_reducible exact World.below_ext _ _ | with_reducible refine Below.ex ?_ _ | with_reducible refine Below.al ?_ _ | with_reducible refine Below.setCell ?_ (by simp) _ | with_reducible refine Below.drew ?_))⟩
      case round =>
        obtain ⟨k, rfl, hk, heq, hB⟩ := hrel
        have HB := hid hB
        have hsz := hB.size
        by_cases hlt : k < T.nr
        · have hT := HH.out.below hB
          have cs := hT.bs.is k hlt
          have hl3 := hT.bs.lt
          have hsp := hT.bsr k hlt
          have HSP := hid hsp
          obtain ⟨ao, cap, hv⟩ := hsp.val
          obtain ⟨n, hn⟩ : ∃ n, (T.sp k).length = n := ⟨_, rfl⟩
          have hn2 := hT.bd.ln k hlt
          rw [hn] at hv hn2
          rw [hv] at cs HSP
          have HNN := hid hn
          have bk : decide ((k : Int) < T.nr) = true := by simp; omega
          have hst : T.spBy c t k (T.nr - k) = if spOn (T.sp k) c t then (k : Int) else T.spBy c t (k + 1) (T.nr - (k + 1)) := by
            rw [show T.nr - k = T.nr - (k + 1) + 1 by omega]; rfl
          rw [hst] at heq
          have HEQ := hid heq
          clear hB hT hsp hv hn heq hst
          go_wp2
          go_loopw [47] (fun y w2 => ∃ j : Nat, y = .int .i64 (j) ∧ j ≤ n ∧ spOn ((T.sp k).drop j) c t = spOn (T.sp k) c t ∧ Below wr.heap.size wr w2) (fun y _ => n - (intOf y).toNat)
          case atStart => exact ⟨0, rfl, Nat.zero_le _, rfl, by (repeat (first | with_reducible exact Below.rf _ | with_reducible exact World.below_ext _ _ | with_reducible refine Below.ex ?_ _ | with_reducible refine Below.al ?_ _ | with_reducible refine Below.setCell ?_ (by simp) _ | with_reducible refine Below.drew ?_))⟩
          case round =>
            obtain ⟨j, rfl, hj, heq2, hB2⟩ := hrel
            have HB2 := hid hB2
            have hsz2 := hB2.size
            by_cases hlj : j < n
            · have hkl : j < (T.sp k).length := by rw [HNN.out]; exact hlj
              have hx : (T.sp k)[j]? = some (T.sp k)[j] := List.getElem?_eq_getElem hkl
              have hdr : (T.sp k).drop j = (T.sp k)[j] :: (T.sp k).drop (j + 1) := List.drop_eq_getElem_cons hkl
              generalize (T.sp k)[j] = x at *
              obtain ⟨b, cap', hv, hlc, hbl, q1, q2, q3⟩ := (HSP.out.of hsz2 (fun b' hb' _ => hB2.block b' hb')).at j x hx
              simp only [Value.slice.injEq] at hv
              obtain ⟨rfl, -, rfl⟩ := hv
              rw [HNN.out] at hlc
              rw [show 3 * j = j * 3 by omega] at q1 q2 q3
              have CV := hid (fun w' => covers_any x t w')
              have bj : decide ((j : Int) < n) = true := by simp; omega
              rw [hdr, spOn_cons] at heq2
              have HE2 := hid heq2
              by_cases hxc : x.1 = c
              · have bx : ((x.1 : Int) == c) = true := by simp; omega
                cases hcv : cov x t with
                | true =>
                  rw [hcv] at CV
                  rw [hcv, if_pos ⟨hxc, rfl⟩] at HE2
                  have HE3 := HEQ.out
                  rw [← HE2.out, if_pos rfl] at HE3
                  have HE4 := hid HE3
                  clear hB2 heq2 hdr hx hcv hxc HE3
                  go_wp2_with (go_at_call 87; refine (CV.out _).mono ?_; rintro e w' ⟨rfl, z1, rfl⟩)
                  go_ret
                  refine ⟨ret_int HE4.out, ?_⟩
                  refine Below.is_ext ?_
                  refine HB.out.trans (Below.mono (HB2.out.trans (Below.mono ?_ HB2.out.size)) HB.out.size)
                  (repeat (first | with_reducible exact Below.rf _ | with_reducible exact World.below_ext _ _ | with_reducible refine Below.ex ?_ _ | with_reducible refine Below.al ?_ _ | with_reducible refine Below.setCell ?_ (by simp) _ | with_reducible refine Below.drew ?_))
                | false =>
                  rw [hcv] at CV
                  rw [hcv, if_neg (by simp)] at HE2
                  clear hB2 heq2 hdr hx hcv hxc
                  go_wp2_with (go_at_call 87; refine (CV.out _).mono ?_; rintro e w' ⟨rfl, z1, rfl⟩)
                  go_roundw
                  case rel =>
                    refine ⟨j + 1, by go_num, by omega, HE2.out, ?_⟩
                    refine HB2.out.trans (Below.mono ?_ HB2.out.size)
                    (repeat (first | with_reducible exact Below.rf _ | with_reducible exact World.below_ext _ _ | with_reducible refine Below.ex ?_ _ | with_reducible refine Below.al ?_ _ | with_reducible refine Below.setCell ?_ (by simp) _ | with_reducible refine Below.drew ?_))
                  case measure => simp [intOf]; omega
              · have bx : ((x.1 : Int) == c) = false := by simp; omega
                rw [if_neg (fun h => hxc h.1)] at HE2
                clear hB2 heq2 hdr hx hxc
                go_wp2
                go_roundw
                case rel =>
                  refine ⟨j + 1, by go_num, by omega, HE2.out, ?_⟩
                  refine HB2.out.trans (Below.mono ?_ HB2.out.size)
                  (repeat (first | with_reducible exact Below.rf _ | with_reducible exact World.below_ext _ _ | with_reducible refine Below.ex ?_ _ | with_reducible refine Below.al ?_ _ | with_reducible refine Below.setCell ?_ (by simp) _ | with_reducible refine Below.drew ?_))
                case measure => simp [intOf]; omega
            · rw [List.drop_eq_nil_of_le (by rw [HNN.out]; omega)] at heq2
              have HE3 := HEQ.out
              rw [← heq2, if_neg (by simp [spOn])] at HE3
              have HE4 := hid HE3
              clear hB2 heq2 HE3
              go_wp2
              go_roundw
              case rel => exact ⟨k + 1, by go_num, by omega, HE4.out, HB.out.trans (Below.mono HB2.out HB.out.size)⟩
              case measure => simp [intOf]; omega
        · rw [show T.nr - k = 0 by omega] at heq
          have HE2 := hid heq
          clear hB heq
          go_wp2
          go_ret
          exact ⟨ret_int HE2.out, HB.out.is_ext⟩
    · rw [if_pos ⟨rfl, hm⟩]
      have bm : (pv == 0) = false := by simpa using hm
      clear h hw hpv hm hsl hmm
      go_enter Tryz.func70, Tryz.ntmps70
      go_wp2_with (go_at_call 86; refine IW.out.mono ?_; rintro e w ⟨rfl, rfl⟩)
      first | with_reducible refine wp_region_ext2 (by kernel_rfl) (by kernel_rfl) ?_ | refine wp_region_ext (by kernel_rfl) (by kernel_rfl) ?_
      repeat (go_big_quiet_step (fail))
      refine wpQuiet_nil ?_
      rintro _ ⟨z, rfl⟩
      go_wp2
      go_ret
      exact ⟨ret_int (by omega), ⟨_, rfl⟩⟩
end Go.Proofs.Qxb6500717aGreat
