/-
  startFree, failure, Arrival; a run in memory; canStay.
-/
import Derived.Test.Qxb6500716aPs
namespace Go.Proofs.Qxb6500716a
open Go.RowKit Go.Maps
set_option linter.unusedSimpArgs false
set_option linter.unusedVariables false
set_option maxRecDepth 20000
set_option maxHeartbeats 4000000

def TS.sfree (T : TS) (q : Rq) : Bool := if T.at q.r (q.t - 1) ≠ -1 then T.freeM q.r (T.at q.r (q.t - 1)) q.s (q.t - 1) else T.freeC q.r q.s q.t
theorem startFree_any (M : TM) (T : TS) (N : PM) (S : PS) (n fb : Nat) (lab : Nat → Nat) (q : Rq) (gv : Value) (w : World) (hT : TAt w lab M T) (hP : PAt w lab N fb M.t S n) (hr : I64 q.r) (hs : I64 q.s) (ht : (T.base : Int) ≤ q.t ∧ q.t < (T.base : Int) + 256) :
    Calls Try.prog 84 #[.pointer (some ⟨N.p, 0, none⟩), .agg #[.int .i64 ((q).r), .int .i64 ((q).s), .int .i64 ((q).t), gv, .int .i64 ((q).h), .int .i64 ((q).m)]] w fun e w' => e = .returned (.bool (T.sfree q)) ∧ ∃ z, w' = w.ext z := by
  have c1 := hP.c1
  have hpl := hP.bp.lt
  have hbb := hT.bd.base
  have it : I64 q.t := ⟨by omega, by omega⟩
  have it1 : I64 (q.t - 1) := ⟨by omega, by omega⟩
  have habd := at_bd hT.bd hT.bm.bd q.r (q.t - 1)
  have AT := hid (fun (w' : World) (h : Below w.heap.size w w') => at_any M T lab q.r (q.t - 1) w' (hT.below h) hr it1)
  have FM := hid (fun (w' : World) (h : Below w.heap.size w w') => freeM_any M T lab q.r (T.at q.r (q.t - 1)) q.s (q.t - 1) w' (hT.below h) hr ⟨by omega, by omega⟩ hs it1)
  have FC := hid (fun (w' : World) (h : Below w.heap.size w w') => freeC_any M T lab q.r q.s q.t w' (hT.below h) hr hs it)
  unfold TS.sfree
  obtain ⟨r, s, t, gl, h, m⟩ := q
  simp only at *
  generalize T.at r (t - 1) = prev at *
  by_cases hp : prev ≠ -1
  · rw [if_pos hp]
    have e1 : (prev != -1) = true := by simp [hp]
    clear hT hP hr hs it it1 hp
    go_enter Try.func84, Try.ntmps84
    go_wp2
    first | with_reducible refine wp_region_ext2 (by kernel_rfl) (by kernel_rfl) ?_ | refine wp_region_ext (by kernel_rfl) (by kernel_rfl) ?_
    repeat (go_big_quiet_step ((go_at_call 24; exact Calls.ext_of (AT.out _ (by (repeat (first | with_reducible exact Below.rf _ | with_reducible exact World.below_ext _ _ | with_reducible refine Below.ex ?_ _ | with_reducible refine Below.al ?_ _ | with_reducible refine Below.setCell ?_ (by simp) _ | with_reducible refine Below.drew ?_)))))))
    refine wpQuiet_nil ?_
    rintro _ ⟨z, rfl⟩
    go_wp2
    first | with_reducible refine wp_region_ext2 (by kernel_rfl) (by kernel_rfl) ?_ | refine wp_region_ext (by kernel_rfl) (by kernel_rfl) ?_
    repeat (go_big_quiet_step ((go_at_call 63; exact Calls.ext_of (FM.out _ (by (repeat (first | with_reducible exact Below.rf _ | with_reducible exact World.below_ext _ _ | with_reducible refine Below.ex ?_ _ | with_reducible refine Below.al ?_ _ | with_reducible refine Below.setCell ?_ (by simp) _ | with_reducible refine Below.drew ?_)))))))
    refine wpQuiet_nil ?_
    rintro _ ⟨z, rfl⟩
    go_wp2
    go_ret
    refine ⟨rfl, ?_⟩
    refine Below.is_ext ?_
    repeat (first | with_reducible exact Below.rf _ | with_reducible exact World.below_ext _ _ | with_reducible refine Below.ex ?_ _ | with_reducible refine Below.al ?_ _ | with_reducible refine Below.setCell ?_ (by simp) _ | with_reducible refine Below.drew ?_)
  · rw [if_neg hp]
    have e1 : (prev != -1) = false := by simp; omega
    clear hT hP hr hs it it1 hp
    go_enter Try.func84, Try.ntmps84
    go_wp2
    first | with_reducible refine wp_region_ext2 (by kernel_rfl) (by kernel_rfl) ?_ | refine wp_region_ext (by kernel_rfl) (by kernel_rfl) ?_
    repeat (go_big_quiet_step ((go_at_call 24; exact Calls.ext_of (AT.out _ (by (repeat (first | with_reducible exact Below.rf _ | with_reducible exact World.below_ext _ _ | with_reducible refine Below.ex ?_ _ | with_reducible refine Below.al ?_ _ | with_reducible refine Below.setCell ?_ (by simp) _ | with_reducible refine Below.drew ?_)))))))
    refine wpQuiet_nil ?_
    rintro _ ⟨z, rfl⟩
    go_wp2
    first | with_reducible refine wp_region_ext2 (by kernel_rfl) (by kernel_rfl) ?_ | refine wp_region_ext (by kernel_rfl) (by kernel_rfl) ?_
    repeat (go_big_quiet_step ((go_at_call 82; exact Calls.ext_of (FC.out _ (by (repeat (first | with_reducible exact Below.rf _ | with_reducible exact World.below_ext _ _ | with_reducible refine Below.ex ?_ _ | with_reducible refine Below.al ?_ _ | with_reducible refine Below.setCell ?_ (by simp) _ | with_reducible refine Below.drew ?_)))))))
    refine wpQuiet_nil ?_
    rintro _ ⟨z, rfl⟩
    go_wp2
    go_ret
    refine ⟨rfl, ?_⟩
    refine Below.is_ext ?_
    repeat (first | with_reducible exact Below.rf _ | with_reducible exact World.below_ext _ _ | with_reducible refine Below.ex ?_ _ | with_reducible refine Below.al ?_ _ | with_reducible refine Below.setCell ?_ (by simp) _ | with_reducible refine Below.drew ?_)
theorem failure_any (q : Rq) (gv : Value) (c x : Int) (w : World) : Calls Try.prog 68 #[.agg #[.int .i64 ((q).r), .int .i64 ((q).s), .int .i64 ((q).t), gv, .int .i64 ((q).h), .int .i64 ((q).m)], .int .u8 c, .int .i64 (x)] w fun e w' => e = .returned (.agg #[.int .u8 (c), .int .i64 (q.t), .slice none 0 0, .slice none 0 0, .int .i64 (x)]) ∧ ∃ z, w' = w.ext z := by
  obtain ⟨r, s, t, gl, h, m⟩ := q
  simp only
  go_enter Try.func68, Try.ntmps68
  go_wp2
  refine bodyPost_ret (v := .agg #[.int .u8 (c), .int .i64 (t), .slice none 0 0, .slice none 0 0, .int .i64 (x)]) (by simp [results, Try.results68, go_sem, ↓IntWalk.iteOmega]) rfl ?_
  refine ⟨rfl, ?_⟩
  refine Below.is_ext ?_
  repeat (first | with_reducible exact Below.rf _ | with_reducible exact World.below_ext _ _ | with_reducible refine Below.ex ?_ _ | with_reducible refine Below.al ?_ _ | with_reducible refine Below.setCell ?_ (by simp) _ | with_reducible refine Below.drew ?_)
theorem arrival_any (c t x : Int) (ao : Option Addr) (n cap : Nat) (dv : Value) (w : World) (ht : -4000000000 ≤ t ∧ t ≤ 4000000000) (hn : n ≤ 1000000) : Calls Try.prog 36 #[.agg #[.int .u8 (c), .int .i64 (t), .slice ao n cap, dv, .int .i64 (x)]] w fun e w' => e = .returned (.int .i64 (t + n - 1)) ∧ ∃ z, w' = w.ext z := by
  go_enter Try.func36, Try.ntmps36
  go_wp2
  go_ret
  refine ⟨by simp, ?_⟩
  refine Below.is_ext ?_
  repeat (first | with_reducible exact Below.rf _ | with_reducible exact World.below_ext _ _ | with_reducible refine Below.ex ?_ _ | with_reducible refine Below.al ?_ _ | with_reducible refine Below.setCell ?_ (by simp) _ | with_reducible refine Below.drew ?_)
/-- A run in memory. -/
def rcell (p fb : Nat) (q : Rq) (gv tv av : Value) (bay : Int) (hz : Int) : Nat → Value
  | 0 => .pointer (some ⟨p, 0, none⟩)
  | 1 => .int .i64 (q.r)
  | 2 => .int .i64 (q.s)
  | 3 => .int .i64 (q.t)
  | 4 => gv
  | 5 => .int .i64 (q.h)
  | 6 => .int .i64 (q.m)
  | 7 => .pointer (some ⟨fb, 0, none⟩)
  | 8 => tv
  | 9 => av
  | 10 => .int .i64 (bay)
  | 11 => .int .i64 ((q.gl.length : Int) + 1)
  | _ => .int .i64 (hz)
structure RAt (w : World) (lab : Nat → Nat) (rb p fb : Nat) (F : FS) (q : Rq) (gv tv av : Value) (bay hz : Int) : Prop where
  b : Blk w rb 13 (rcell p fb q gv tv av bay hz)
  lb : lab rb = 0 ∨ 10 ≤ lab rb
  g : GAt w lab gv q.gl
  t : Ints w lab tv (etl bay q.gl)
  a : Ints w lab av (eal F bay q.gl)
theorem RAt.keptL {w w' : World} {lab : Nat → Nat} {A : Nat → Prop} {rb p fb : Nat} {F : FS} {q : Rq} {gv tv av : Value} {bay hz : Int} (h : RAt w lab rb p fb F q gv tv av bay hz) (hk : KeptL lab A w w') (hA : ∀ x, A x → 0 < x ∧ x < 10) : RAt w' lab rb p fb F q gv tv av bay hz :=
  ⟨h.b.keptL hk (fun hx => by have := hA _ hx; have := h.lb; omega), h.lb, h.g.keptL hk hA, h.t.keptL hk hA, h.a.keptL hk hA⟩
theorem RAt.relab {w : World} {lab lab' : Nat → Nat} {rb p fb : Nat} {F : FS} {q : Rq} {gv tv av : Value} {bay hz : Int} (h : RAt w lab rb p fb F q gv tv av bay hz) (hl : ∀ b, b < w.heap.size → (lab b = 0 ∨ 10 ≤ lab b) → (lab' b = 0 ∨ 10 ≤ lab' b)) : RAt w lab' rb p fb F q gv tv av bay hz :=
  ⟨h.b, hl _ h.b.lt h.lb, h.g.relab hl, h.t.relab hl, h.a.relab hl⟩
theorem RAt.below {w w' : World} {lab : Nat → Nat} {rb p fb : Nat} {F : FS} {q : Rq} {gv tv av : Value} {bay hz : Int} (h : RAt w lab rb p fb F q gv tv av bay hz) (hb : Below w.heap.size w w') : RAt w' lab rb p fb F q gv tv av bay hz := h.keptL (A := fun _ => False) (KeptL.of_below hb) (fun _ h => h.elim)

/-- The robot can stay for so many ticks. -/
def TS.stays (T : TS) (r c t : Int) : Nat → Nat → Bool
  | _, 0 => true
  | i, k + 1 => T.freeM r c c (t + i) && T.stays r c t (i + 1) k
theorem canStay_any (M : TM) (T : TS) (N : PM) (S : PS) (n rb fb : Nat) (F : FS) (lab : Nat → Nat) (q : Rq) (gv tv av : Value) (bay hz : Int) (c : Nat) (t : Int) (k : Nat) (w : World) (hT : TAt w lab M T) (hP : PAt w lab N fb M.t S n) (hR : RAt w lab rb N.p fb F q gv tv av bay hz) (hr : I64 q.r) (hc : c < 1000) (ht : -4000000000 ≤ t ∧ t ≤ 4000000000) (hk : k ≤ 64) :
    Calls Try.prog 98 #[.pointer (some ⟨rb, 0, none⟩), .int .i64 (c), .int .i64 (t), .int .i64 (k)] w fun e w' => e = .returned (.bool (T.stays q.r c t 0 k)) ∧ ∃ z, w' = w.ext z := by
  have c1 := hP.c1
  have hpl := hP.bp.lt
  have r0 : w.cell? ⟨rb, 0, none⟩ = some (.pointer (some ⟨N.p, 0, none⟩)) := hR.b.is 0 (by omega)
  have r1 : w.cell? ⟨rb, 1, none⟩ = some (.int .i64 (q.r)) := hR.b.is 1 (by omega)
  have hrl := hR.b.lt
  have FM := hid (fun (i : Nat) (hi : i ≤ 64) (w' : World) (h : Below w.heap.size w w') => freeM_any M T lab q.r c c (t + i) w' (hT.below h) hr ⟨by omega, by omega⟩ ⟨by omega, by omega⟩ ⟨by omega, by omega⟩)
  obtain ⟨res, hres⟩ : ∃ x, T.stays q.r c t 0 k = x := ⟨_, rfl⟩
  rw [hres]
  have HR := hid hres
  generalize q.r = r at *
  clear hT hP hR hres hr
  go_enter Try.func98, Try.ntmps98
  go_wp2
  go_loopw [9] (fun x wr => ∃ i : Nat, x = .int .i64 (i) ∧ i ≤ k ∧ T.stays r c t i (k - i) = res ∧ Below w.heap.size w wr) (fun x _ => k - (intOf x).toNat)
  case atStart => exact ⟨0, rfl, Nat.zero_le _, HR.out, Below.rf _⟩
  case round =>
    obtain ⟨i, rfl, hi, heq, hB⟩ := hrel
    have HB := hid hB
    have c1' := (World.cell?_of_block (hB.block N.p hpl)).trans c1
    have r0' := (World.cell?_of_block (hB.block rb hrl)).trans r0
    have r1' := (World.cell?_of_block (hB.block rb hrl)).trans r1
    have hsz := hB.size
    by_cases hik : i < k
    · rw [show k - i = (k - (i + 1)) + 1 by omega, TS.stays] at heq
      have F1 := hid (fun (w' : World) (h : Below wr.heap.size wr w') => FM.out i (by omega) w' (HB.out.trans (h.mono HB.out.size)))
      cases hf : T.freeM r c c (t + i) with
      | true =>
        rw [hf] at heq F1
        simp only [Bool.true_and] at heq
        have HE := hid heq
        clear heq hB hf
        go_wp2
        first | with_reducible refine wp_region_ext2 (by kernel_rfl) (by kernel_rfl) ?_ | refine wp_region_ext (by kernel_rfl) (by kernel_rfl) ?_
        repeat (go_big_quiet_step ((go_at_call 63; exact Calls.ext_of (F1.out _ (by (repeat (first | with_reducible exact Below.rf _ | with_reducible exact World.below_ext _ _ | with_reducible refine Below.ex ?_ _ | with_reducible refine Below.al ?_ _ | with_reducible refine Below.setCell ?_ (by simp) _ | with_reducible refine Below.drew ?_)))))))
        refine wpQuiet_nil ?_
        rintro _ ⟨z, rfl⟩
        go_wp2
        go_roundw
        case rel =>
          refine ⟨i + 1, by go_num, by omega, HE.out, ?_⟩
          refine HB.out.trans (Below.mono ?_ HB.out.size)
          (repeat (first | with_reducible exact Below.rf _ | with_reducible exact World.below_ext _ _ | with_reducible refine Below.ex ?_ _ | with_reducible refine Below.al ?_ _ | with_reducible refine Below.setCell ?_ (by simp) _ | with_reducible refine Below.drew ?_))
        case measure => simp [intOf]; omega
      | false =>
        rw [hf] at heq F1
        simp only [Bool.false_and] at heq
        have HE := hid heq
        clear heq hB hf
        go_wp2
        first | with_reducible refine wp_region_ext2 (by kernel_rfl) (by kernel_rfl) ?_ | refine wp_region_ext (by kernel_rfl) (by kernel_rfl) ?_
        repeat (go_big_quiet_step ((go_at_call 63; exact Calls.ext_of (F1.out _ (by (repeat (first | with_reducible exact Below.rf _ | with_reducible exact World.below_ext _ _ | with_reducible refine Below.ex ?_ _ | with_reducible refine Below.al ?_ _ | with_reducible refine Below.setCell ?_ (by simp) _ | with_reducible refine Below.drew ?_)))))))
        refine wpQuiet_nil ?_
        rintro _ ⟨z, rfl⟩
        go_wp2
        go_ret
        refine ⟨ret_bool HE.out, Below.is_ext ?_⟩
        refine HB.out.trans (Below.mono ?_ HB.out.size)
        (repeat (first | with_reducible exact Below.rf _ | with_reducible exact World.below_ext _ _ | with_reducible refine Below.ex ?_ _ | with_reducible refine Below.al ?_ _ | with_reducible refine Below.setCell ?_ (by simp) _ | with_reducible refine Below.drew ?_))
    · rw [show k - i = 0 by omega, TS.stays] at heq
      have HE := hid heq
      clear heq hB
      go_wp2
      go_ret
      exact ⟨ret_bool HE.out, HB.out.is_ext⟩
end Go.Proofs.Qxb6500716a
