/-
  At: the walk.
-/
import Derived.Test.Qxb6500716aTq
namespace Go.Proofs.Qxb6500716a
open Go.RowKit Go.Maps
set_option linter.unusedSimpArgs false
set_option linter.unusedVariables false
set_option maxRecDepth 20000
set_option maxHeartbeats 4000000

/-- The span has the robot at the tick. -/
def Sg.on (x : Sg) (r t : Int) : Bool := decide ((x.r : Int) = r) && (decide ((x.f : Int) ≤ t) && decide (t < (x.u : Int)))
def spAt : List Sg → Int → Int → Int
  | [], _, _ => -1
  | x :: l, r, t => if x.on r t = true then (x.c : Int) else spAt l r t
/-- Where a robot is at a tick. -/
def TS.at (T : TS) (r t : Int) : Int := match T.tm r t with
  | some c => c
  | none => spAt T.sp r t

theorem at_any (M : TM) (T : TS) (lab : Nat → Nat) (r t : Int) (w : World) (h : TAt w lab M T) (hr : I64 r) (ht : I64 t) :
    Calls Try.prog 24 #[.pointer (some ⟨M.t, 0, none⟩), .int .i64 (r), .int .i64 (t)] w fun e w' => e = .returned (.int .i64 (T.at r t)) ∧ ∃ z, w' = w.ext z := by
  have HH := hid h
  have c4 := h.c4
  have c5 := h.c5
  have hlt := h.bt.lt
  obtain ⟨ao, cap, hv⟩ := h.bs.val
  have hln := h.ln
  have e1 := h.bm.look hr ht
  rw [hv] at c5
  have HV := hid hv
  unfold TS.at
  cases hx : T.tm r t with
  | some c =>
    simp only [hx, Option.getD_some, Option.isSome_some] at e1
    clear h hx hv hr ht
    go_enter Try.func24, Try.ntmps24
    go_wp2
    go_ret
    refine ⟨rfl, Below.is_ext ?_⟩
    (repeat (first | with_reducible exact Below.rf _ | with_reducible exact World.below_ext _ _ | with_reducible refine Below.ex ?_ _ | with_reducible refine Below.al ?_ _ | with_reducible refine Below.setCell ?_ (by simp) _ | with_reducible refine Below.drew ?_))
  | none =>
    simp only [hx, Option.getD_none, Option.isSome_none] at e1
    clear h hx hv
    obtain ⟨n, hn⟩ : ∃ n, T.sp.length = n := ⟨_, rfl⟩
    rw [hn] at c5 hln HV
    have HN := hid hn
    clear hn hr ht
    show Calls Try.prog 24 #[.pointer (some ⟨M.t, 0, none⟩), .int .i64 (r), .int .i64 (t)] w fun e w' => e = .returned (.int .i64 (spAt T.sp r t)) ∧ ∃ z, w' = w.ext z
    go_enter Try.func24, Try.ntmps24
    go_wp2
    go_loopw [29] (fun x wr => ∃ k : Nat, x = .int .i64 (k) ∧ k ≤ n ∧ spAt (T.sp.drop k) r t = spAt T.sp r t ∧ Below w.heap.size w wr) (fun x _ => n - (intOf x).toNat)
    case atStart => exact ⟨0, rfl, Nat.zero_le _, rfl, by (repeat (first | with_reducible exact Below.rf _ | with_reducible exact World.below_ext _ _ | with_reducible refine Below.ex ?_ _ | with_reducible refine Below.al ?_ _ | with_reducible refine Below.setCell ?_ (by simp) _ | with_reducible refine Below.drew ?_))⟩
    case round =>
      obtain ⟨k, rfl, hk, heq, hB⟩ := hrel
      have HB := hid hB
      have hsz := hB.size
      by_cases hlt : k < n
      · have hkl : k < T.sp.length := by rw [HN.out]; exact hlt
        have hx : T.sp[k]? = some T.sp[k] := List.getElem?_eq_getElem hkl
        have hdr : T.sp.drop k = T.sp[k] :: T.sp.drop (k + 1) := List.drop_eq_getElem_cons hkl
        generalize T.sp[k] = x at *
        obtain ⟨b, cap', hv, hlc, hbl, q1, q2, q3, q4⟩ := (HH.out.below hB).span k x hx
        rw [HV.out, HN.out] at hv
        simp only [Value.slice.injEq] at hv
        obtain ⟨rfl, -, rfl⟩ := hv
        rw [HN.out] at hlc
        have hbd := HH.out.bd.sp x (List.mem_of_getElem? hx)
        have bk : decide ((k : Int) < n) = true := by simp; omega
        rw [hdr, spAt] at heq
        have HE2 := hid heq
        cases hcv : x.on r t with
        | true =>
          rw [hcv, if_pos rfl] at HE2
          unfold Sg.on at hcv
          simp at hcv
          have b1 : ((x.r : Int) == r) = true := by simp; omega
          have b2 : decide ((x.f : Int) ≤ t) = true := by simp; omega
          have b3 : decide (t < (x.u : Int)) = true := by simp; omega
          clear hB heq hdr hx hcv
          go_wp2
          go_ret
          refine ⟨ret_int HE2.out, ?_⟩
          refine Below.is_ext ?_
          refine HB.out.trans (Below.mono ?_ HB.out.size)
          (repeat (first | with_reducible exact Below.rf _ | with_reducible exact World.below_ext _ _ | with_reducible refine Below.ex ?_ _ | with_reducible refine Below.al ?_ _ | with_reducible refine Below.setCell ?_ (by simp) _ | with_reducible refine Below.drew ?_))
        | false =>
          rw [hcv, if_neg (by simp)] at HE2
          unfold Sg.on at hcv
          clear hB heq hdr hx
          by_cases b1 : (x.r : Int) = r
          · by_cases b2 : (x.f : Int) ≤ t
            · have b3 : ¬ (t < (x.u : Int)) := by simp [b1, b2] at hcv; omega
              clear hcv
              go_wp2
              go_roundw
              case rel =>
                refine ⟨k + 1, by go_num, by omega, HE2.out, ?_⟩
                refine HB.out.trans (Below.mono ?_ HB.out.size)
                (repeat (first | with_reducible exact Below.rf _ | with_reducible exact World.below_ext _ _ | with_reducible refine Below.ex ?_ _ | with_reducible refine Below.al ?_ _ | with_reducible refine Below.setCell ?_ (by simp) _ | with_reducible refine Below.drew ?_))
              case measure => simp [intOf]; omega
            · clear hcv
              go_wp2
              go_roundw
              case rel =>
                refine ⟨k + 1, by go_num, by omega, HE2.out, ?_⟩
                refine HB.out.trans (Below.mono ?_ HB.out.size)
                (repeat (first | with_reducible exact Below.rf _ | with_reducible exact World.below_ext _ _ | with_reducible refine Below.ex ?_ _ | with_reducible refine Below.al ?_ _ | with_reducible refine Below.setCell ?_ (by simp) _ | with_reducible refine Below.drew ?_))
              case measure => simp [intOf]; omega
          · clear hcv
            have b1' : ((x.r : Int) == r) = false := by simp [b1]
            clear b1
            go_wp2
            go_roundw
            case rel =>
              refine ⟨k + 1, by go_num, by omega, HE2.out, ?_⟩
              refine HB.out.trans (Below.mono ?_ HB.out.size)
              (repeat (first | with_reducible exact Below.rf _ | with_reducible exact World.below_ext _ _ | with_reducible refine Below.ex ?_ _ | with_reducible refine Below.al ?_ _ | with_reducible refine Below.setCell ?_ (by simp) _ | with_reducible refine Below.drew ?_))
            case measure => simp [intOf]; omega
      · rw [List.drop_eq_nil_of_le (by rw [HN.out]; omega)] at heq
        have HE2 := hid heq
        clear hB heq
        go_wp2
        go_ret
        exact ⟨ret_int HE2.out, HB.out.is_ext⟩
end Go.Proofs.Qxb6500716a
