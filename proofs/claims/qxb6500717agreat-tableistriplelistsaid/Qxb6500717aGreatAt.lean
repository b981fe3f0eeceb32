/-
  at: the walk.
-/
import Derived.Test.Qxb6500717aGreatAsk
namespace Go.Proofs.Qxb6500717aGreat
open Go.RowKit
set_option linter.unusedSimpArgs false
set_option linter.unusedVariables false

theorem spAt_cons (x : Nat × Nat × Nat) (l : List (Nat × Nat × Nat)) (t : Int) : spAt (x :: l) t = if cov x t = true then (x.1 : Int) else spAt l t := by
  simp [spAt, cov]
theorem ret_int {x y : Int} (h : x = y) : Ending.returned (.int .i64 (x)) = .returned (.int .i64 (y)) := by rw [h]

/-- One span's cells. -/
theorem SpAt.at {w : World} {lab : Nat → Nat} {tag : Nat} {v : Value} {l : List (Nat × Nat × Nat)} (h : SpAt w lab tag v l) (k : Nat) (x : Nat × Nat × Nat) (hx : l[k]? = some x) :
    ∃ b cap, v = .slice (some ⟨b, 0, none⟩) l.length cap ∧ l.length ≤ cap ∧ b < w.heap.size ∧ w.cell? ⟨b, 3 * k, none⟩ = some (.int .i64 (x.1)) ∧ w.cell? ⟨b, 3 * k + 1, none⟩ = some (.int .i64 (x.2.1)) ∧ w.cell? ⟨b, 3 * k + 2, none⟩ = some (.int .i64 (x.2.2)) := by
  obtain ⟨ao, cap, h1, h2, h3⟩ := h.ex
  have hk := (List.getElem?_eq_some_iff.1 hx).1
  rcases h3 with ⟨-, rfl⟩ | ⟨b, rfl, -, hp⟩
  · omega
  · obtain ⟨e1, e2, e3⟩ := srow_at l k x hx
    exact ⟨b, cap, h1, h2, hp.lt, hp.is _ _ e1, hp.is _ _ e2, hp.is _ _ e3⟩

theorem SpAt.val {w : World} {lab : Nat → Nat} {tag : Nat} {v : Value} {l : List (Nat × Nat × Nat)} (h : SpAt w lab tag v l) : ∃ ao cap, v = .slice ao l.length cap := by
  obtain ⟨ao, cap, h1, -, -⟩ := h.ex
  exact ⟨ao, cap, h1⟩


set_option maxRecDepth 20000 in
set_option maxHeartbeats 2000000 in
theorem at_any (M : TabM) (T : TabS) (lab : Nat → Nat) (r : Nat) (t : Int) (w : World) (h : TAt w lab M T) (hr : r < T.nr) :
    Calls Tryz.prog 69 #[.pointer (some ⟨M.t, 0, none⟩), .int .i64 (r), .int .i64 (t)] w fun e w' => e = .returned (.int .i64 (T.at r t)) ∧ ∃ z, w' = w.ext z := by
  have IW := hid (inWindow_any M T lab t w h)
  have c6 := h.c6
  have c7 := h.c7
  have cp := h.bp.is r hr
  have cs := h.bs.is r hr
  have hl1 := h.bt.lt
  have hl2 := h.bp.lt
  have hl3 := h.bs.lt
  have hl4 := (h.bpr r hr).lt
  have hnr := h.bd.nr
  have hsp := h.bsr r hr
  have HSP := hid hsp
  obtain ⟨ao, cap, hv⟩ := hsp.val
  obtain ⟨n, hn⟩ : ∃ n, (T.sp r).length = n := ⟨_, rfl⟩
  have hn2 := h.bd.ln r hr
  rw [hn] at hv hn2
  rw [hv] at cs HSP
  have HNN := hid hn
  unfold TabS.at
  cases hw : T.win t with
  | false =>
    rw [if_neg (by simp)]
    rw [hw] at IW
    clear h hsp hv hn hw
    go_enter Tryz.func69, Tryz.ntmps69
    go_wp2_with (go_at_call 86; refine IW.out.mono ?_; rintro e w ⟨rfl, rfl⟩)
    go_loopw [36] (fun x wr => ∃ k : Nat, x = .int .i64 (k) ∧ k ≤ n ∧ spAt ((T.sp r).drop k) t = spAt (T.sp r) t ∧ Below w.heap.size w wr) (fun x _ => n - (intOf x).toNat)
    case atStart => exact ⟨0, rfl, Nat.zero_le _, rfl, by (repeat (first | with_reducible exact Below.rf _ | with_reducible exact World.below_ext _ _ | with_reducible refine Below.ex ?_ _ | with_reducible refine Below.al ?_ _ | with_reducible refine Below.setCell ?_ (by simp) _ | with_reducible refine Below.drew ?_))⟩
    case round =>
      obtain ⟨k, rfl, hk, heq, hB⟩ := hrel
      have HB := hid hB
      have hsz := hB.size
      have HEQ := hid heq
      by_cases hlt : k < n
      · have hkl : k < (T.sp r).length := by rw [HNN.out]; exact hlt
        have hx : (T.sp r)[k]? = some (T.sp r)[k] := List.getElem?_eq_getElem hkl
        have hdr : (T.sp r).drop k = (T.sp r)[k] :: (T.sp r).drop (k + 1) := List.drop_eq_getElem_cons hkl
        generalize (T.sp r)[k] = x at *
        obtain ⟨b, cap', hv, hlc, hbl, q1, q2, q3⟩ := (HSP.out.of hsz (fun b' hb' _ => hB.block b' hb')).at k x hx
        simp only [Value.slice.injEq] at hv
        obtain ⟨rfl, -, rfl⟩ := hv
        rw [HNN.out] at hlc
        rw [show 3 * k = k * 3 by omega] at q1 q2 q3
        have CV := hid (fun w' => covers_any x t w')
        have bk : decide ((k : Int) < n) = true := by simp; omega
        rw [hdr, spAt_cons] at heq
        have HE2 := hid heq
        cases hcv : cov x t with
        | true =>
          rw [hcv] at CV
          rw [hcv, if_pos rfl] at HE2
          clear hB heq hdr hx hcv
          go_wp2_with (go_at_call 87; refine (CV.out _).mono ?_; rintro e w' ⟨rfl, z1, rfl⟩)
          go_ret
          refine ⟨ret_int HE2.out, ?_⟩
          refine Below.is_ext ?_
          refine HB.out.trans (Below.mono ?_ HB.out.size)
          (repeat (first | with_reducible exact Below.rf _ | with_reducible exact World.below_ext _ _ | with_reducible refine Below.ex ?_ _ | with_reducible refine Below.al ?_ _ | with_reducible refine Below.setCell ?_ (by simp) _ | with_reducible refine Below.drew ?_))
        | false =>
          rw [hcv] at CV
          rw [hcv, if_neg (by simp)] at HE2
          clear hB heq hdr hx hcv
          go_wp2_with (go_at_call 87; refine (CV.out _).mono ?_; rintro e w' ⟨rfl, z1, rfl⟩)
          go_roundw
          case rel =>
            refine ⟨k + 1, by go_num, by omega, HE2.out, ?_⟩
            refine HB.out.trans (Below.mono ?_ HB.out.size)
            (repeat (first | with_reducible exact Below.rf _ | with_reducible exact World.below_ext _ _ | with_reducible refine Below.ex ?_ _ | with_reducible refine Below.al ?_ _ | with_reducible refine Below.setCell ?_ (by simp) _ | with_reducible refine Below.drew ?_))
          case measure => simp [intOf]; omega
      · rw [List.drop_eq_nil_of_le (by rw [HNN.out]; omega)] at heq
        have HE2 := hid heq
        clear hB heq
        go_wp2
        go_ret
        exact ⟨ret_int HE2.out, HB.out.is_ext⟩
  | true =>
    rw [hw] at IW
    have hwn := hw
    unfold TabS.win at hwn
    simp at hwn
    have hbb := h.bd.base
    obtain ⟨tn, rfl⟩ : ∃ tn : Nat, t = tn := ⟨t.toNat, by omega⟩
    have hand := and255 tn (by omega)
    rw [Int.toNat_natCast]
    obtain ⟨sl, hsl⟩ : ∃ sl, tn % 256 = sl := ⟨_, rfl⟩
    have hsl2 : sl < 256 := by omega
    rw [hsl] at hand ⊢
    have cq := (h.bpr r hr).is sl hsl2
    have hpb := h.bd.pl r sl hr hsl2
    have hnc := h.bd.nc
    obtain ⟨pv, hpv⟩ : ∃ pv, T.pl r sl = pv := ⟨_, rfl⟩
    rw [hpv] at cq hpb ⊢
    by_cases hm : pv = -1
    · rw [if_neg (fun h => h.2 hm)]
      rw [hm] at cq
      obtain ⟨t, ht⟩ : ∃ t : Int, (tn : Int) = t := ⟨_, rfl⟩
      rw [ht] at IW hand ⊢
      clear h hsp hv hn hw hwn hpv hm hsl ht hpb
      go_enter Tryz.func69, Tryz.ntmps69
      go_wp2_with (go_at_call 86; refine IW.out.mono ?_; rintro e w ⟨rfl, rfl⟩)
      go_loopw [36] (fun x wr => ∃ k : Nat, x = .int .i64 (k) ∧ k ≤ n ∧ spAt ((T.sp r).drop k) t = spAt (T.sp r) t ∧ Below w.heap.size w wr) (fun x _ => n - (intOf x).toNat)
      case atStart => exact ⟨0, rfl, Nat.zero_le _, rfl, by (repeat (first | with_reducible exact Below.rf _ | with_reducible exact World.below_ext _ _ | with_reducible refine Below.ex ?_ _ | with_reducible refine Below.al ?_ _ | with_reducible refine Below.setCell ?_ (by simp) _ | with_reducible refine Below.drew ?_))⟩
      case round =>
        obtain ⟨k, rfl, hk, heq, hB⟩ := hrel
        have HB := hid hB
        have hsz := hB.size
        have HEQ := hid heq
        by_cases hlt : k < n
        · have hkl : k < (T.sp r).length := by rw [HNN.out]; exact hlt
          have hx : (T.sp r)[k]? = some (T.sp r)[k] := List.getElem?_eq_getElem hkl
          have hdr : (T.sp r).drop k = (T.sp r)[k] :: (T.sp r).drop (k + 1) := List.drop_eq_getElem_cons hkl
          generalize (T.sp r)[k] = x at *
          obtain ⟨b, cap', hv, hlc, hbl, q1, q2, q3⟩ := (HSP.out.of hsz (fun b' hb' _ => hB.block b' hb')).at k x hx
          simp only [Value.slice.injEq] at hv
          obtain ⟨rfl, -, rfl⟩ := hv
          rw [HNN.out] at hlc
          rw [show 3 * k = k * 3 by omega] at q1 q2 q3
          have CV := hid (fun w' => covers_any x t w')
          have bk : decide ((k : Int) < n) = true := by simp; omega
          rw [hdr, spAt_cons] at heq
          have HE2 := hid heq
          cases hcv : cov x t with
          | true =>
            rw [hcv] at CV
            rw [hcv, if_pos rfl] at HE2
            clear hB heq hdr hx hcv
            go_wp2_with (go_at_call 87; refine (CV.out _).mono ?_; rintro e w' ⟨rfl, z1, rfl⟩)
            go_ret
            refine ⟨ret_int HE2.out, ?_⟩
            refine Below.is_ext ?_
            refine HB.out.trans (Below.mono ?_ HB.out.size)
            (repeat (first | with_reducible exact Below.rf _ | with_reducible exact World.below_ext _ _ | with_reducible refine Below.ex ?_ _ | with_reducible refine Below.al ?_ _ | with_reducible refine Below.setCell ?_ (by simp) _ | with_reducible refine Below.drew ?_))
          | false =>
            rw [hcv] at CV
            rw [hcv, if_neg (by simp)] at HE2
            clear hB heq hdr hx hcv
            go_wp2_with (go_at_call 87; refine (CV.out _).mono ?_; rintro e w' ⟨rfl, z1, rfl⟩)
            go_roundw
            case rel =>
              refine ⟨k + 1, by go_num, by omega, HE2.out, ?_⟩
              refine HB.out.trans (Below.mono ?_ HB.out.size)
              (repeat (first | with_reducible exact Below.rf _ | with_reducible exact World.below_ext _ _ | with_reducible refine Below.ex ?_ _ | with_reducible refine Below.al ?_ _ | with_reducible refine Below.setCell ?_ (by simp) _ | with_reducible refine Below.drew ?_))
            case measure => simp [intOf]; omega
        · rw [List.drop_eq_nil_of_le (by rw [HNN.out]; omega)] at heq
          have HE2 := hid heq
          clear hB heq
          go_wp2
          go_ret
          exact ⟨ret_int HE2.out, HB.out.is_ext⟩
    · rw [if_pos ⟨rfl, hm⟩]
      have bm : (pv == -1) = false := by simpa using hm
      clear h hsp hv hn hw hpv hm hsl
      go_enter Tryz.func69, Tryz.ntmps69
      go_wp2_with (go_at_call 86; refine IW.out.mono ?_; rintro e w ⟨rfl, rfl⟩)
      go_ret
      exact ⟨ret_int (by omega), (Below.rf _).is_ext⟩
end Go.Proofs.Qxb6500717aGreat
