/-
  Removable.
-/
import Derived.Test.Qxb6500717aGreatLst
namespace Go.Proofs.Qxb6500717aGreat
open Go.RowKit
set_option linter.unusedSimpArgs false
set_option linter.unusedVariables false

/-- How many of n slots from tick t on are taken. -/
def TabS.cntP (T : TabS) (r : Nat) : Nat → Nat → Nat
  | _, 0 => 0
  | t, n + 1 => (if T.pl r (t % 256) = -1 then 0 else 1) + T.cntP r (t + 1) n
/-- How many spans begin at t or later. -/
def spFrom : List (Nat × Nat × Nat) → Nat → Nat
  | [], _ => 0
  | x :: l, t => (if t ≤ x.2.1 then 1 else 0) + spFrom l t
def TabS.remov (T : TabS) (r t : Nat) : Nat := T.cntP r t (T.base + 256 - t) + spFrom (T.sp r) t

theorem remov_no (M : TabM) (T : TabS) (lab : Nat → Nat) (r t : Int) (w : World) (h : TAt w lab M T) (hr : ¬ (0 ≤ r ∧ r < T.nr)) :
    Calls Tryz.prog 42 #[.pointer (some ⟨M.t, 0, none⟩), .int .i64 (r), .int .i64 (t)] w fun e w' => e = .returned (.int .i64 (0)) ∧ w' = w := by
  have VR := hid (validRobot_any M T lab r w h)
  have e0 : (decide (0 ≤ r) && decide (r < (T.nr : Int))) = false := by simp; omega
  rw [e0] at VR
  clear h hr e0
  go_enter Tryz.func42, Tryz.ntmps42
  go_wp2_with (go_at_call 75; refine VR.out.mono ?_; rintro e w' ⟨rfl, rfl⟩)
  go_ret
  exact ⟨rfl, rfl⟩

def removPost (n : Nat) (w : World) (e : Ending) (w' : World) : Prop := e = .returned (.int .i64 (n)) ∧ Below w.heap.size w w'

set_option maxRecDepth 20000 in
set_option maxHeartbeats 4000000 in
theorem remov_any (M : TabM) (T : TabS) (lab : Nat → Nat) (r tn : Nat) (t : Int) (w : World) (h : TAt w lab M T) (hr : r < T.nr) (htn : (tn : Int) = max t (T.base : Int)) (ht : t ≤ 9223372036854775807) :
    Calls Tryz.prog 42 #[.pointer (some ⟨M.t, 0, none⟩), .int .i64 (r), .int .i64 (t)] w (removPost (T.remov r tn) w) := by
  have HH := hid h
  have c3 := h.c3
  have c6 := h.c6
  have c7 := h.c7
  have hl1 := h.bt.lt
  have hl2 := h.bp.lt
  have hl3 := h.bs.lt
  have hl4 := (h.bpr r hr).lt
  have cp := h.bp.is r hr
  have cs := h.bs.is r hr
  have hnr := h.bd.nr
  have hbb := h.bd.base
  have hsp := h.bsr r hr
  obtain ⟨ao, cap, hv⟩ := hsp.val
  obtain ⟨n, hn⟩ : ∃ n, (T.sp r).length = n := ⟨_, rfl⟩
  have hn2 := h.bd.ln r hr
  rw [hn] at hv hn2
  rw [hv] at cs
  have HV := hid hv
  have HNN := hid hn
  have EN := hid (end_any M T lab w h)
  have VR := hid (validRobot_any M T lab r w h)
  have e0 : (decide (0 ≤ (r : Int)) && decide ((r : Int) < (T.nr : Int))) = true := by simp; omega
  rw [e0] at VR
  obtain ⟨res, hres⟩ : ∃ res, T.remov r tn = res := ⟨_, rfl⟩
  rw [hres]
  have HRES := hid hres
  clear h hsp hv hn hres e0
  have hmx : (t < T.base ∧ (tn : Int) = T.base) ∨ ((T.base : Int) ≤ t ∧ (tn : Int) = t) := by omega
  have htb : T.base ≤ tn := by omega
  clear htn
  rcases hmx with ⟨hm1, hm2⟩ | ⟨hm1, hm2⟩
  · have hm3 : ¬ ((T.base : Int) ≤ t) := by omega
    have HM2 := hid hm2
    clear hm2
    go_enter Tryz.func42, Tryz.ntmps42
    go_wp2_with (go_at_call 75; refine VR.out.mono ?_; rintro e w ⟨rfl, rfl⟩)
    rw [← HM2.out]
    go_loopw [7, 8] (fun y x wr => ∃ (k c : Nat), x = .int .i64 (k) ∧ y = .int .i64 (c) ∧ tn ≤ k ∧ (k ≤ T.base + 256 ∨ k = tn) ∧ c + tn ≤ k ∧ c + (T.cntP r k (T.base + 256 - k) + spFrom (T.sp r) tn) = res ∧ wr = w) (fun _ x _ => T.base + 256 - (intOf x).toNat)
    case atStart => exact ⟨tn, 0, rfl, rfl, Nat.le_refl _, Or.inr rfl, by omega, by rw [Nat.zero_add]; exact HRES.out, rfl⟩
    case round =>
      obtain ⟨k, c, rfl, rfl, hk1, hk2, hck, heq, hwr⟩ := hrel
      obtain rfl : w = wr := hwr.symm
      clear hwr
      by_cases hlt : k < T.base + 256
      · have hand := and255 k (by omega)
        obtain ⟨sl, hsl⟩ : ∃ sl, k % 256 = sl := ⟨_, rfl⟩
        have hsl2 : sl < 256 := by omega
        rw [show T.base + 256 - k = T.base + 256 - (k + 1) + 1 by omega] at heq
        simp only [TabS.cntP] at heq
        rw [hsl] at hand heq
        have cq := (HH.out.bpr r hr).is sl hsl2
        have hpb := HH.out.bd.pl r sl hr hsl2
        obtain ⟨pv, hpv⟩ : ∃ pv, T.pl r sl = pv := ⟨_, rfl⟩
        rw [hpv] at cq hpb heq
        have bk : decide ((k : Int) < (T.base : Int) + 256) = true := by simp; omega
        by_cases hm : pv = -1
        · rw [if_pos hm, Nat.zero_add] at heq
          rw [hm] at cq
          have HE := hid heq
          clear hpb hpv hm hsl heq
          go_wp2_with (go_at_call 66; refine EN.out.mono ?_; rintro e w ⟨rfl, hw'⟩; obtain rfl := hw')
          go_roundw
          case rel => exact ⟨k + 1, c, by go_num, rfl, by omega, by omega, by omega, HE.out, by trivial⟩
          case measure => simp [intOf]; omega
        · rw [if_neg hm] at heq
          have b1 : (pv != -1) = true := by simpa using hm
          have b2 : (pv == -1) = false := by simpa using hm
          have HE := hid heq
          clear hpb hpv hm hsl heq
          go_wp2_with (go_at_call 66; refine EN.out.mono ?_; rintro e w ⟨rfl, hw'⟩; obtain rfl := hw')
          go_roundw
          case rel => exact ⟨k + 1, c + 1, by go_num, by go_num, by omega, by omega, by omega, by have := HE.out; omega, by trivial⟩
          case measure => simp [intOf]; omega
      · rw [show T.base + 256 - k = 0 by omega] at heq
        simp only [TabS.cntP, Nat.zero_add] at heq
        have HE := hid heq
        have bk : decide ((k : Int) < (T.base : Int) + 256) = false := by simp; omega
        have hc2 : c ≤ 256 := by omega
        clear heq
        go_wp2_with (go_at_call 66; refine EN.out.mono ?_; rintro e w ⟨rfl, hw'⟩; obtain rfl := hw')
        go_loopw [7, 50] (fun y x wz => ∃ (i d : Nat), x = .int .i64 (i) ∧ y = .int .i64 (d) ∧ i ≤ n ∧ d ≤ c + i ∧ d + spFrom ((T.sp r).drop i) tn = res ∧ Below w.heap.size w wz) (fun _ x _ => n - (intOf x).toNat)
        case atStart => exact ⟨0, c, rfl, rfl, by omega, by omega, HE.out, Below.rf _⟩
        case round =>
          obtain ⟨i, d, rfl, rfl, hi, hd, heq2, hB⟩ := hrel
          have HB := hid hB
          have sb := hB.size
          by_cases hlt2 : i < n
          · have hkl : i < (T.sp r).length := by rw [HNN.out]; exact hlt2
            have hx : (T.sp r)[i]? = some (T.sp r)[i] := List.getElem?_eq_getElem hkl
            rw [List.drop_eq_getElem_cons hkl] at heq2
            simp only [spFrom] at heq2
            have hxb := HH.out.bd.sp r _ hr (List.getElem_mem hkl)
            generalize (T.sp r)[i] = x at hx heq2 hxb
            have hspz := (HH.out.below hB).bsr r hr
            rw [HV.out] at hspz
            obtain ⟨b, cap', hv, hlc, hbl, q1, q2, q3⟩ := hspz.at i x hx
            simp only [Value.slice.injEq] at hv
            obtain ⟨rfl, -, rfl⟩ := hv
            rw [HNN.out] at hlc
            rw [show 3 * i = i * 3 by omega] at q1 q2 q3
            by_cases ht : tn ≤ x.2.1
            · rw [if_pos ht] at heq2
              have HE2 := hid heq2
              have bq : decide ((tn : Int) ≤ (x.2.1 : Int)) = true := by simp; omega
              clear hx heq2 hB hspz
              go_wp2
              go_roundw
              case rel => exact ⟨i + 1, d + 1, by go_num, by go_num, by omega, by omega, by have := HE2.out; omega, HB.out.trans (by (refine Below.mono (B := (World.heap _).size) ?_ sb; (repeat (first | with_reducible exact Below.rf _ | with_reducible exact World.below_ext _ _ | with_reducible refine Below.ex ?_ _ | with_reducible refine Below.al ?_ _ | with_reducible refine Below.setCell ?_ (by simp) _ | with_reducible refine Below.drew ?_))))⟩
              case measure => simp [intOf]; omega
            · rw [if_neg ht, Nat.zero_add] at heq2
              have HE2 := hid heq2
              have bq : decide ((tn : Int) ≤ (x.2.1 : Int)) = false := by simp; omega
              clear hx heq2 hB hspz
              go_wp2
              go_roundw
              case rel => exact ⟨i + 1, d, by go_num, rfl, by omega, by omega, HE2.out, HB.out.trans (by (refine Below.mono (B := (World.heap _).size) ?_ sb; (repeat (first | with_reducible exact Below.rf _ | with_reducible exact World.below_ext _ _ | with_reducible refine Below.ex ?_ _ | with_reducible refine Below.al ?_ _ | with_reducible refine Below.setCell ?_ (by simp) _ | with_reducible refine Below.drew ?_))))⟩
              case measure => simp [intOf]; omega
          · have hnil : (T.sp r).drop i = [] := List.drop_eq_nil_of_le (by rw [HNN.out]; omega)
            rw [hnil] at heq2
            simp only [spFrom, Nat.add_zero] at heq2
            have HE2 := hid heq2
            clear heq2 hB
            go_wp2
            go_ret
            exact ⟨congrArg (fun d : Nat => Ending.returned (.int .i64 (d))) HE2.out, HB.out⟩
  · obtain rfl : (tn : Int) = t := hm2
    clear hm1
    go_enter Tryz.func42, Tryz.ntmps42
    go_wp2_with (go_at_call 75; refine VR.out.mono ?_; rintro e w ⟨rfl, rfl⟩)
    go_loopw [7, 8] (fun y x wr => ∃ (k c : Nat), x = .int .i64 (k) ∧ y = .int .i64 (c) ∧ tn ≤ k ∧ (k ≤ T.base + 256 ∨ k = tn) ∧ c + tn ≤ k ∧ c + (T.cntP r k (T.base + 256 - k) + spFrom (T.sp r) tn) = res ∧ wr = w) (fun _ x _ => T.base + 256 - (intOf x).toNat)
    case atStart => exact ⟨tn, 0, rfl, rfl, Nat.le_refl _, Or.inr rfl, by omega, by rw [Nat.zero_add]; exact HRES.out, rfl⟩
    case round =>
      obtain ⟨k, c, rfl, rfl, hk1, hk2, hck, heq, hwr⟩ := hrel
      obtain rfl : w = wr := hwr.symm
      clear hwr
      by_cases hlt : k < T.base + 256
      · have hand := and255 k (by omega)
        obtain ⟨sl, hsl⟩ : ∃ sl, k % 256 = sl := ⟨_, rfl⟩
        have hsl2 : sl < 256 := by omega
        rw [show T.base + 256 - k = T.base + 256 - (k + 1) + 1 by omega] at heq
        simp only [TabS.cntP] at heq
        rw [hsl] at hand heq
        have cq := (HH.out.bpr r hr).is sl hsl2
        have hpb := HH.out.bd.pl r sl hr hsl2
        obtain ⟨pv, hpv⟩ : ∃ pv, T.pl r sl = pv := ⟨_, rfl⟩
        rw [hpv] at cq hpb heq
        have bk : decide ((k : Int) < (T.base : Int) + 256) = true := by simp; omega
        by_cases hm : pv = -1
        · rw [if_pos hm, Nat.zero_add] at heq
          rw [hm] at cq
          have HE := hid heq
          clear hpb hpv hm hsl heq
          go_wp2_with (go_at_call 66; refine EN.out.mono ?_; rintro e w ⟨rfl, hw'⟩; obtain rfl := hw')
          go_roundw
          case rel => exact ⟨k + 1, c, by go_num, rfl, by omega, by omega, by omega, HE.out, by trivial⟩
          case measure => simp [intOf]; omega
        · rw [if_neg hm] at heq
          have b1 : (pv != -1) = true := by simpa using hm
          have b2 : (pv == -1) = false := by simpa using hm
          have HE := hid heq
          clear hpb hpv hm hsl heq
          go_wp2_with (go_at_call 66; refine EN.out.mono ?_; rintro e w ⟨rfl, hw'⟩; obtain rfl := hw')
          go_roundw
          case rel => exact ⟨k + 1, c + 1, by go_num, by go_num, by omega, by omega, by omega, by have := HE.out; omega, by trivial⟩
          case measure => simp [intOf]; omega
      · rw [show T.base + 256 - k = 0 by omega] at heq
        simp only [TabS.cntP, Nat.zero_add] at heq
        have HE := hid heq
        have bk : decide ((k : Int) < (T.base : Int) + 256) = false := by simp; omega
        have hc2 : c ≤ 256 := by omega
        clear heq
        go_wp2_with (go_at_call 66; refine EN.out.mono ?_; rintro e w ⟨rfl, hw'⟩; obtain rfl := hw')
        go_loopw [7, 50] (fun y x wz => ∃ (i d : Nat), x = .int .i64 (i) ∧ y = .int .i64 (d) ∧ i ≤ n ∧ d ≤ c + i ∧ d + spFrom ((T.sp r).drop i) tn = res ∧ Below w.heap.size w wz) (fun _ x _ => n - (intOf x).toNat)
        case atStart => exact ⟨0, c, rfl, rfl, by omega, by omega, HE.out, Below.rf _⟩
        case round =>
          obtain ⟨i, d, rfl, rfl, hi, hd, heq2, hB⟩ := hrel
          have HB := hid hB
          have sb := hB.size
          by_cases hlt2 : i < n
          · have hkl : i < (T.sp r).length := by rw [HNN.out]; exact hlt2
            have hx : (T.sp r)[i]? = some (T.sp r)[i] := List.getElem?_eq_getElem hkl
            rw [List.drop_eq_getElem_cons hkl] at heq2
            simp only [spFrom] at heq2
            have hxb := HH.out.bd.sp r _ hr (List.getElem_mem hkl)
            generalize (T.sp r)[i] = x at hx heq2 hxb
            have hspz := (HH.out.below hB).bsr r hr
            rw [HV.out] at hspz
            obtain ⟨b, cap', hv, hlc, hbl, q1, q2, q3⟩ := hspz.at i x hx
            simp only [Value.slice.injEq] at hv
            obtain ⟨rfl, -, rfl⟩ := hv
            rw [HNN.out] at hlc
            rw [show 3 * i = i * 3 by omega] at q1 q2 q3
            by_cases ht : tn ≤ x.2.1
            · rw [if_pos ht] at heq2
              have HE2 := hid heq2
              have bq : decide ((tn : Int) ≤ (x.2.1 : Int)) = true := by simp; omega
              clear hx heq2 hB hspz
              go_wp2
              go_roundw
              case rel => exact ⟨i + 1, d + 1, by go_num, by go_num, by omega, by omega, by have := HE2.out; omega, HB.out.trans (by (refine Below.mono (B := (World.heap _).size) ?_ sb; (repeat (first | with_reducible exact Below.rf _ | with_reducible exact World.below_ext _ _ | with_reducible refine Below.ex ?_ _ | with_reducible refine Below.al ?_ _ | with_reducible refine Below.setCell ?_ (by simp) _ | with_reducible refine Below.drew ?_))))⟩
              case measure => simp [intOf]; omega
            · rw [if_neg ht, Nat.zero_add] at heq2
              have HE2 := hid heq2
              have bq : decide ((tn : Int) ≤ (x.2.1 : Int)) = false := by simp; omega
              clear hx heq2 hB hspz
              go_wp2
              go_roundw
              case rel => exact ⟨i + 1, d, by go_num, rfl, by omega, by omega, HE2.out, HB.out.trans (by (refine Below.mono (B := (World.heap _).size) ?_ sb; (repeat (first | with_reducible exact Below.rf _ | with_reducible exact World.below_ext _ _ | with_reducible refine Below.ex ?_ _ | with_reducible refine Below.al ?_ _ | with_reducible refine Below.setCell ?_ (by simp) _ | with_reducible refine Below.drew ?_))))⟩
              case measure => simp [intOf]; omega
          · have hnil : (T.sp r).drop i = [] := List.drop_eq_nil_of_le (by rw [HNN.out]; omega)
            rw [hnil] at heq2
            simp only [spFrom, Nat.add_zero] at heq2
            have HE2 := hid heq2
            clear heq2 hB
            go_wp2
            go_ret
            exact ⟨congrArg (fun d : Nat => Ending.returned (.int .i64 (d))) HE2.out, HB.out⟩
end Go.Proofs.Qxb6500717aGreat
