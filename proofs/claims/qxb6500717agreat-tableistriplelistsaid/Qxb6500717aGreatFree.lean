/-
  End, busyFrom, freeFrom: the walks.
-/
import Derived.Test.Qxb6500717aGreatPath
namespace Go.Proofs.Qxb6500717aGreat
open Go.RowKit
set_option linter.unusedSimpArgs false
set_option linter.unusedVariables false

theorem end_any (M : TabM) (T : TabS) (lab : Nat → Nat) (w : World) (h : TAt w lab M T) : Calls Tryz.prog 66 #[.pointer (some ⟨M.t, 0, none⟩)] w fun e w' => e = .returned (.int .i64 ((T.base : Int) + 256)) ∧ w' = w := by
  have c3 := h.c3
  have hb := h.bd.base
  clear h
  go_enter Tryz.func66, Tryz.ntmps66
  go_wp2
  go_ret
  exact ⟨rfl, rfl⟩
theorem base_any (M : TabM) (T : TabS) (lab : Nat → Nat) (w : World) (h : TAt w lab M T) : Calls Tryz.prog 41 #[.pointer (some ⟨M.t, 0, none⟩)] w fun e w' => e = .returned (.int .i64 (T.base)) ∧ w' = w := by
  have c3 := h.c3
  clear h
  go_enter Tryz.func41, Tryz.ntmps41
  go_wp2
  go_ret
  exact ⟨rfl, rfl⟩
theorem capacity_any (M : TabM) (T : TabS) (lab : Nat → Nat) (w : World) (h : TAt w lab M T) : Calls Tryz.prog 40 #[.pointer (some ⟨M.t, 0, none⟩)] w fun e w' => e = .returned (.int .i64 (T.cap)) ∧ w' = w := by
  have c3 := h.c2
  clear h
  go_enter Tryz.func40, Tryz.ntmps40
  go_wp2
  go_ret
  exact ⟨rfl, rfl⟩
theorem held_any (M : TabM) (T : TabS) (lab : Nat → Nat) (w : World) (h : TAt w lab M T) : Calls Tryz.prog 39 #[.pointer (some ⟨M.t, 0, none⟩)] w fun e w' => e = .returned (.int .i64 (T.held)) ∧ w' = w := by
  have c3 := h.c4
  clear h
  go_enter Tryz.func39, Tryz.ntmps39
  go_wp2
  go_ret
  exact ⟨rfl, rfl⟩

/-- Is a slot taken at one of the n ticks from t on? -/
def TabS.anyPl (T : TabS) (r : Nat) : Nat → Nat → Bool
  | _, 0 => false
  | t, n + 1 => if T.pl r (t % 256) = -1 then T.anyPl r (t + 1) n else true
/-- Does the last span end behind t? -/
def lastBusy (l : List (Nat × Nat × Nat)) (t : Nat) : Bool := match l.getLast? with
  | none => false
  | some x => decide (t < x.2.2)
def TabS.busy (T : TabS) (r t : Nat) : Bool := T.anyPl r t (T.base + 256 - t) || lastBusy (T.sp r) t

set_option maxRecDepth 20000 in
set_option maxHeartbeats 4000000 in
theorem busy_any (M : TabM) (T : TabS) (lab : Nat → Nat) (r tn : Nat) (w : World) (h : TAt w lab M T) (hr : r < T.nr) (ht : T.base ≤ tn ∧ tn < T.base + 256) :
    Calls Tryz.prog 72 #[.pointer (some ⟨M.t, 0, none⟩), .int .i64 (r), .int .i64 (tn)] w fun e w' => e = .returned (.bool (T.busy r tn)) ∧ ∃ z, w' = w.ext z := by
  have HH := hid h
  have c3 := h.c3
  have c6 := h.c6
  have c7 := h.c7
  have hl1 := h.bt.lt
  have hl2 := h.bp.lt
  have hl3 := h.bs.lt
  have hl4 := (h.bpr r hr).lt
  have cp := h.bp.is r hr
  have cs := h.bs.is r hr
  have hnr := h.bd.nr
  have hnc := h.bd.nc
  have hbb := h.bd.base
  have hsp := h.bsr r hr
  have HSP := hid hsp
  obtain ⟨ao, cap, hv⟩ := hsp.val
  rw [hv] at cs HSP
  obtain ⟨n, hn⟩ : ∃ n, (T.sp r).length = n := ⟨_, rfl⟩
  have hn2 := h.bd.ln r hr
  rw [hn] at cs HSP hn2
  have HNN := hid hn
  have EN := hid (end_any M T lab w h)
  obtain ⟨res, hres⟩ : ∃ res, T.busy r tn = res := ⟨_, rfl⟩
  rw [hres]
  have HRES := hid hres
  have hge : ¬ (tn < T.base) := by omega
  clear h hsp hv hn hres
  go_enter Tryz.func72, Tryz.ntmps72
  go_wp2
  go_loopw [7] (fun x wr => ∃ k : Nat, x = .int .i64 (k) ∧ tn ≤ k ∧ k ≤ T.base + 256 ∧ (T.anyPl r k (T.base + 256 - k) || lastBusy (T.sp r) tn) = res ∧ wr = w) (fun x _ => T.base + 256 - (intOf x).toNat)
  case atStart => exact ⟨tn, rfl, Nat.le_refl _, by omega, HRES.out, rfl⟩
  case round =>
    obtain ⟨k, rfl, hk1, hk2, heq, rfl⟩ := hrel
    by_cases hlt : k < T.base + 256
    · have hand := and255 k (by omega)
      obtain ⟨sl, hsl⟩ : ∃ sl, k % 256 = sl := ⟨_, rfl⟩
      have hsl2 : sl < 256 := by omega
      rw [show T.base + 256 - k = T.base + 256 - (k + 1) + 1 by omega] at heq
      simp only [TabS.anyPl] at heq
      rw [hsl] at hand heq
      have cq := (HH.out.bpr r hr).is sl hsl2
      have hpb := HH.out.bd.pl r sl hr hsl2
      obtain ⟨pv, hpv⟩ : ∃ pv, T.pl r sl = pv := ⟨_, rfl⟩
      rw [hpv] at cq hpb heq
      have bk : decide ((k : Int) < (T.base : Int) + 256) = true := by simp; omega
      by_cases hm : pv = -1
      · rw [if_pos hm] at heq
        rw [hm] at cq
        have HE := hid heq
        clear hpb hpv hm hsl heq
        go_wp2_with (go_at_call 66; refine EN.out.mono ?_; rintro e w' ⟨rfl, hw'⟩; obtain rfl := hw')
        go_roundw
        case rel => exact ⟨k + 1, by go_num, by omega, by omega, HE.out, by trivial⟩
        case measure => simp [intOf]; omega
      · rw [if_neg hm, Bool.true_or] at heq
        have b1 : (pv != -1) = true := by simpa using hm
        have b2 : (pv == -1) = false := by simpa using hm
        have HE := hid heq
        clear hpb hpv hm hsl heq
        go_wp2_with (go_at_call 66; refine EN.out.mono ?_; rintro e w' ⟨rfl, hw'⟩; obtain rfl := hw')
        go_ret
        exact ⟨ret_bool HE.out, (Below.rf _).is_ext⟩
    · rw [show T.base + 256 - k = 0 by omega] at heq
      simp only [TabS.anyPl, Bool.false_or] at heq
      have HE := hid heq
      clear heq
      cases n with
      | zero =>
        have hnil : T.sp r = [] := List.length_eq_zero_iff.1 HNN.out
        have HE2 : Hid (false = res) := by
          have := HE.out
          rw [hnil] at this
          exact this
        go_wp2_with (go_at_call 66; refine EN.out.mono ?_; rintro e w' ⟨rfl, hw'⟩; obtain rfl := hw')
        go_ret
        exact ⟨ret_bool HE2.out, (Below.rf _).is_ext⟩
      | succ n =>
        have hkl : n < (T.sp r).length := by rw [HNN.out]; omega
        have hx : (T.sp r)[n]? = some (T.sp r)[n] := List.getElem?_eq_getElem hkl
        have hlast : (T.sp r).getLast? = some (T.sp r)[n] := by rw [List.getLast?_eq_getElem?, HNN.out]; exact hx
        generalize (T.sp r)[n] = x at *
        obtain ⟨b, cap', hv, hlc, hbl, q1, q2, q3⟩ := HSP.out.at n x hx
        simp only [Value.slice.injEq] at hv
        obtain ⟨rfl, -, rfl⟩ := hv
        rw [HNN.out] at hlc
        rw [show 3 * n = n * 3 by omega] at q1 q2 q3
        have HE2 : Hid (decide (tn < x.2.2) = res) := by
          have := HE.out
          unfold lastBusy at this
          rw [hlast] at this
          exact this
        clear hx hlast
        go_wp2_with (go_at_call 66; refine EN.out.mono ?_; rintro e w' ⟨rfl, hw'⟩; obtain rfl := hw')
        go_ret
        exact ⟨ret_bool HE2.out, (Below.rf _).is_ext⟩

/-- Does another robot take the cell at one of the n ticks from t on? -/
def TabS.anyGr (T : TabS) (r c : Nat) : Nat → Nat → Bool
  | _, 0 => false
  | t, n + 1 => if T.gr (t % 256 * T.nc + c) ≠ 0 ∧ T.gr (t % 256 * T.nc + c) - 1 ≠ r then true else T.anyGr r c (t + 1) n
/-- Is a span of the list on the cell behind t? -/
def spLate : List (Nat × Nat × Nat) → Nat → Nat → Bool
  | [], _, _ => false
  | x :: l, c, t => if x.1 = c ∧ t < x.2.2 then true else spLate l c t
/-- The same of the robots from k on, n of them, but r. -/
def TabS.late (T : TabS) (r c t : Nat) : Nat → Nat → Bool
  | _, 0 => false
  | k, n + 1 => if k ≠ r ∧ spLate (T.sp k) c t = true then true else T.late r c t (k + 1) n
def TabS.free (T : TabS) (r c t : Nat) : Bool := !(T.anyGr r c t (T.base + 256 - t) || T.late r c t 0 T.nr)

set_option maxRecDepth 20000 in
set_option maxHeartbeats 4000000 in
theorem free_any (M : TabM) (T : TabS) (lab : Nat → Nat) (r c tn : Nat) (w : World) (h : TAt w lab M T) (hr : r < T.nr) (hc : c < T.nc) (ht : T.base ≤ tn ∧ tn ≤ 1099511627776) :
    Calls Tryz.prog 73 #[.pointer (some ⟨M.t, 0, none⟩), .int .i64 (r), .int .i64 (c), .int .i64 (tn)] w fun e w' => e = .returned (.bool (T.free r c tn)) ∧ ∃ z, w' = w.ext z := by
  have HH := hid h
  have c3 := h.c3
  have hl1 := h.bt.lt
  have hnr := h.bd.nr
  have hnc := h.bd.nc
  have hbb := h.bd.base
  obtain ⟨res, hres⟩ : ∃ res, T.free r c tn = res := ⟨_, rfl⟩
  rw [hres]
  have HRES := hid hres
  have hge : ¬ (tn < T.base) := by omega
  clear h hres
  go_enter Tryz.func73, Tryz.ntmps73
  go_wp2
  go_loopw [9] (fun x wr => ∃ k : Nat, x = .int .i64 (k) ∧ tn ≤ k ∧ (k ≤ T.base + 256 ∨ k = tn) ∧ (!(T.anyGr r c k (T.base + 256 - k) || T.late r c tn 0 T.nr)) = res ∧ Below w.heap.size w wr) (fun x _ => T.base + 256 - (intOf x).toNat)
  case atStart => exact ⟨tn, rfl, Nat.le_refl _, by omega, HRES.out, Below.rf _⟩
  case round =>
    obtain ⟨k, rfl, hk1, hk2, heq, hB⟩ := hrel
    have HB := hid hB
    have hT := HH.out.below hB
    have EN := hid (end_any M T lab wr hT)
    have c0 := hT.c0
    have c3 := hT.c3
    have c5 := hT.c5
    have c7 := hT.c7
    have l1 := hT.bt.lt
    have l2 := hT.bg.lt
    by_cases hlt : k < T.base + 256
    · have hand := and255 k (by omega)
      obtain ⟨sl, hsl⟩ : ∃ sl, k % 256 = sl := ⟨_, rfl⟩
      have hsl2 : sl < 256 := by omega
      rw [show T.base + 256 - k = T.base + 256 - (k + 1) + 1 by omega] at heq
      simp only [TabS.anyGr] at heq
      rw [hsl] at hand heq
      obtain ⟨mm, hmm⟩ : ∃ mm, sl * T.nc = mm := ⟨_, rfl⟩
      have hm2 : mm + c < 256 * T.nc := by
        have h1 := Nat.mul_le_mul_right T.nc (show sl + 1 ≤ 256 by omega)
        rw [Nat.add_mul, Nat.one_mul, hmm] at h1
        omega
      have e1 : (sl : Int) * (T.nc : Int) = mm := by rw [← hmm]; exact (Int.natCast_mul _ _).symm
      rw [hmm] at heq
      have cq := hT.bg.is (mm + c) hm2
      have hpb := hT.bd.gr (mm + c) hm2
      obtain ⟨pv, hpv⟩ : ∃ pv, T.gr (mm + c) = pv := ⟨_, rfl⟩
      rw [hpv] at cq hpb heq
      have bk : decide ((k : Int) < (T.base : Int) + 256) = true := by simp; omega
      by_cases hm : pv = 0
      · rw [if_neg (fun h => h.1 hm)] at heq
        rw [hm] at cq
        have HE := hid heq
        clear hpb hpv hm hsl heq hB hT hmm
        go_wp2_with (go_at_call 66; refine EN.out.mono ?_; rintro e w' ⟨rfl, hw'⟩; obtain rfl := hw')
        first | with_reducible refine wp_region_ext2 (by kernel_rfl) (by kernel_rfl) ?_ | refine wp_region_ext (by kernel_rfl) (by kernel_rfl) ?_
        repeat (go_big_quiet_step (fail))
        refine wpQuiet_nil ?_
        rintro _ ⟨z, rfl⟩
        go_wp2
        go_roundw
        case rel => exact ⟨k + 1, by go_num, by omega, by omega, HE.out, HB.out.ex _⟩
        case measure => simp [intOf]; omega
      · have b1 : (pv != 0) = true := by simpa using hm
        have b2 : (pv == 0) = false := by simpa using hm
        by_cases hmr : pv - 1 = r
        · rw [if_neg (fun h => h.2 hmr)] at heq
          have b3 : (pv - 1 == (r : Int)) = true := by simpa using hmr
          have b4 : (pv - 1 != (r : Int)) = false := by simpa using hmr
          have HE := hid heq
          clear hpv hm hmr hsl heq hB hT hmm
          go_wp2_with (go_at_call 66; refine EN.out.mono ?_; rintro e w' ⟨rfl, hw'⟩; obtain rfl := hw')
          first | with_reducible refine wp_region_ext2 (by kernel_rfl) (by kernel_rfl) ?_ | refine wp_region_ext (by kernel_rfl) (by kernel_rfl) ?_
          repeat (go_big_quiet_step (fail))
          refine wpQuiet_nil ?_
          rintro _ ⟨z, rfl⟩
          go_wp2
          go_roundw
          case rel => exact ⟨k + 1, by go_num, by omega, by omega, HE.out, HB.out.ex _⟩
          case measure => simp [intOf]; omega
        · rw [if_pos ⟨hm, hmr⟩, Bool.true_or] at heq
          have b3 : (pv - 1 == (r : Int)) = false := by simpa using hmr
          have b4 : (pv - 1 != (r : Int)) = true := by simpa using hmr
          have HE := hid heq
          clear hpv hm hmr hsl heq hB hT hmm
          go_wp2_with (go_at_call 66; refine EN.out.mono ?_; rintro e w' ⟨rfl, hw'⟩; obtain rfl := hw')
          first | with_reducible refine wp_region_ext2 (by kernel_rfl) (by kernel_rfl) ?_ | refine wp_region_ext (by kernel_rfl) (by kernel_rfl) ?_
          repeat (go_big_quiet_step (fail))
          refine wpQuiet_nil ?_
          rintro _ ⟨z, rfl⟩
          go_wp2
          go_ret
          exact ⟨ret_bool HE.out, (HB.out.ex _).is_ext⟩
    · rw [show T.base + 256 - k = 0 by omega] at heq
      simp only [TabS.anyGr, Bool.false_or] at heq
      have HE := hid heq
      have HT1 := hid hT
      clear heq hB hT
      go_wp2_with (go_at_call 66; refine EN.out.mono ?_; rintro e w1 ⟨rfl, hw'⟩; obtain rfl := hw')
      go_loopw [56] (fun x wr => ∃ k : Nat, x = .int .i64 (k) ∧ k ≤ T.nr ∧ (!(T.late r c tn k (T.nr - k))) = res ∧ Below w1.heap.size w1 wr) (fun x _ => T.nr - (intOf x).toNat)
      case atStart => exact ⟨0, rfl, Nat.zero_le _, HE.out, Below.rf _⟩
      case round =>
        obtain ⟨k, rfl, hk, heq, hB⟩ := hrel
        have HB2 := hid hB
        have hsz := hB.size
        by_cases hlt : k < T.nr
        · have hT := HT1.out.below hB
          have cs := hT.bs.is k hlt
          have hl3 := hT.bs.lt
          have hsp := hT.bsr k hlt
          have HSP := hid hsp
          obtain ⟨ao, cap, hv⟩ := hsp.val
          obtain ⟨n, hn⟩ : ∃ n, (T.sp k).length = n := ⟨_, rfl⟩
          have hn2 := hT.bd.ln k hlt
          rw [hn] at hv hn2
          rw [hv] at cs HSP
          have HNN := hid hn
          have bk : decide ((k : Int) < T.nr) = true := by simp; omega
          have hst : T.late r c tn k (T.nr - k) = if k ≠ r ∧ spLate (T.sp k) c tn = true then true else T.late r c tn (k + 1) (T.nr - (k + 1)) := by
            rw [show T.nr - k = T.nr - (k + 1) + 1 by omega]; rfl
          rw [hst] at heq
          by_cases hkr : k = r
          · rw [if_neg (fun h => h.1 hkr)] at heq
            have b1 : ((k : Int) == r) = true := by simp; omega
            have HEQ := hid heq
            clear hB hT hsp hv hn heq hst hkr
            go_wp2
            go_roundw
            case rel => exact ⟨k + 1, by go_num, by omega, HEQ.out, HB2.out⟩
            case measure => simp [intOf]; omega
          · have b1 : ((k : Int) == r) = false := by simp; omega
            have heq' : (!(if spLate (T.sp k) c tn = true then true else T.late r c tn (k + 1) (T.nr - (k + 1)))) = res := by
              rw [← heq]; simp [hkr]
            have HEQ := hid heq'
            clear hB hT hsp hv hn heq hst hkr heq'
            go_wp2
            go_loopw [66] (fun y w2 => ∃ j : Nat, y = .int .i64 (j) ∧ j ≤ n ∧ spLate ((T.sp k).drop j) c tn = spLate (T.sp k) c tn ∧ Below wr.heap.size wr w2) (fun y _ => n - (intOf y).toNat)
            case atStart => exact ⟨0, rfl, Nat.zero_le _, rfl, by (repeat (first | with_reducible exact Below.rf _ | with_reducible exact World.below_ext _ _ | with_reducible refine Below.ex ?_ _ | with_reducible refine Below.al ?_ _ | with_reducible refine Below.setCell ?_ (by simp) _ | with_reducible refine Below.drew ?_))⟩
            case round =>
              obtain ⟨j, rfl, hj, heq2, hB3⟩ := hrel
              have HB3 := hid hB3
              have hsz2 := hB3.size
              by_cases hlj : j < n
              · have hkl : j < (T.sp k).length := by rw [HNN.out]; exact hlj
                have hx : (T.sp k)[j]? = some (T.sp k)[j] := List.getElem?_eq_getElem hkl
                have hdr : (T.sp k).drop j = (T.sp k)[j] :: (T.sp k).drop (j + 1) := List.drop_eq_getElem_cons hkl
                generalize (T.sp k)[j] = x at *
                obtain ⟨b, cap', hv, hlc, hbl, q1, q2, q3⟩ := (HSP.out.of hsz2 (fun b' hb' _ => hB3.block b' hb')).at j x hx
                simp only [Value.slice.injEq] at hv
                obtain ⟨rfl, -, rfl⟩ := hv
                rw [HNN.out] at hlc
                rw [show 3 * j = j * 3 by omega] at q1 q2 q3
                have bj : decide ((j : Int) < n) = true := by simp; omega
                rw [hdr] at heq2
                simp only [spLate] at heq2
                by_cases hxc : x.1 = c
                · have bx : ((x.1 : Int) == c) = true := by simp; omega
                  by_cases hcv : tn < x.2.2
                  · rw [if_pos ⟨hxc, hcv⟩] at heq2
                    have HE3 := HEQ.out
                    rw [← heq2, if_pos rfl] at HE3
                    have HE4 := hid HE3
                    have bu : decide (tn < x.2.2) = true := by simp; omega
                    clear hB3 heq2 hdr hx hcv hxc HE3
                    go_wp2
                    go_ret
                    refine ⟨ret_bool HE4.out, ?_⟩
                    refine Below.is_ext ?_
                    refine HB.out.trans (Below.mono (HB2.out.trans (Below.mono (HB3.out.trans (Below.mono ?_ HB3.out.size)) HB2.out.size)) HB.out.size)
                    (repeat (first | with_reducible exact Below.rf _ | with_reducible exact World.below_ext _ _ | with_reducible refine Below.ex ?_ _ | with_reducible refine Below.al ?_ _ | with_reducible refine Below.setCell ?_ (by simp) _ | with_reducible refine Below.drew ?_))
                  · rw [if_neg (fun h => hcv h.2)] at heq2
                    have HE2 := hid heq2
                    have bu : decide (tn < x.2.2) = false := by simp; omega
                    clear hB3 heq2 hdr hx hcv hxc
                    go_wp2
                    go_roundw
                    case rel =>
                      refine ⟨j + 1, by go_num, by omega, HE2.out, ?_⟩
                      refine HB3.out.trans (Below.mono ?_ HB3.out.size)
                      (repeat (first | with_reducible exact Below.rf _ | with_reducible exact World.below_ext _ _ | with_reducible refine Below.ex ?_ _ | with_reducible refine Below.al ?_ _ | with_reducible refine Below.setCell ?_ (by simp) _ | with_reducible refine Below.drew ?_))
                    case measure => simp [intOf]; omega
                · have bx : ((x.1 : Int) == c) = false := by simp; omega
                  rw [if_neg (fun h => hxc h.1)] at heq2
                  have HE2 := hid heq2
                  clear hB3 heq2 hdr hx hxc
                  go_wp2
                  go_roundw
                  case rel =>
                    refine ⟨j + 1, by go_num, by omega, HE2.out, ?_⟩
                    refine HB3.out.trans (Below.mono ?_ HB3.out.size)
                    (repeat (first | with_reducible exact Below.rf _ | with_reducible exact World.below_ext _ _ | with_reducible refine Below.ex ?_ _ | with_reducible refine Below.al ?_ _ | with_reducible refine Below.setCell ?_ (by simp) _ | with_reducible refine Below.drew ?_))
                  case measure => simp [intOf]; omega
              · rw [List.drop_eq_nil_of_le (by rw [HNN.out]; omega)] at heq2
                have HE3 := HEQ.out
                rw [← heq2, if_neg (by simp [spLate])] at HE3
                have HE4 := hid HE3
                clear hB3 heq2 HE3
                go_wp2
                go_roundw
                case rel => exact ⟨k + 1, by go_num, by omega, HE4.out, HB2.out.trans (Below.mono HB3.out HB2.out.size)⟩
                case measure => simp [intOf]; omega
        · rw [show T.nr - k = 0 by omega] at heq
          have HE2 := hid heq
          clear hB heq
          go_wp2
          go_ret
          refine ⟨ret_bool HE2.out, ?_⟩
          exact (HB.out.trans (Below.mono HB2.out HB.out.size)).is_ext
end Go.Proofs.Qxb6500717aGreat
