/-
  Removable: the walk.
-/
import Derived.Test.Qxb6500716aTm
namespace Go.Proofs.Qxb6500716a
open Go.RowKit Go.Maps
set_option linter.unusedSimpArgs false
set_option linter.unusedVariables false
set_option maxRecDepth 20000
set_option maxHeartbeats 4000000

/-- How many reservations Truncate would take away. -/
def TS.remov (T : TS) (r t : Int) : Int := if T.rOk r = true then (T.held : Int) - ((T.trunc r t).held : Int) else 0
theorem remov_any (M : TM) (T : TS) (lab : Nat → Nat) (r t : Int) (w : World) (h : TAt w lab M T) (ht : I64 t) :
    Calls Try.prog 91 #[.pointer (some ⟨M.t, 0, none⟩), .int .i64 (r), .int .i64 (t)] w fun e w' => e = .returned (.int .i64 (T.remov r t)) ∧ ∃ z, w' = w.ext z := by
  have CL := hid (clone_any M T lab w h)
  have hb := h.bd.base
  obtain ⟨res, hres⟩ : ∃ x, T.remov r t = x := ⟨_, rfl⟩
  rw [hres]
  have HRES := hid hres
  have hlt := h.bt.lt
  clear h hres
  go_enter Try.func91, Try.ntmps91
  go_wp2_with (first | (go_at_call 19; refine CL.out.mono ?_; rintro e w1 ⟨labc, Mc, rfl, hc, hl, hB⟩) | (go_at_call 52; refine hold ?_))
  unfold Hid
  cases hr : T.rOk r with
  | true =>
    have TR := hid (trunc_any Mc T labc r t w1 hc hr (max t (T.base : Int)).toNat (by omega) (by have := ht.2; omega))
    have e1 : res = (T.held : Int) - ((T.trunc r t).held : Int) := by rw [← HRES.out]; unfold TS.remov; rw [if_pos hr]
    have HB := hid hB
    have HL := hid hl
    clear hr hB hl hc ht HRES
    go_wp2_with (first | (go_at_call 52; refine TR.out.mono ?_; rintro e w2 ⟨lab2, M2, rfl, h2, -, -, -, hk⟩))
    go_ret
    refine ⟨by rw [e1]; rfl, Below.is_ext ?_⟩
    refine ⟨hk.os.trans HB.out.os, hk.tape.trans HB.out.tape, hk.output.trans HB.out.output, Nat.le_trans HB.out.size hk.size, fun k hk' => (hk.block k (Nat.lt_of_lt_of_le hk' HB.out.size) (by rw [HL.out k hk']; unfold tabL; omega)).trans (HB.out.block k hk')⟩
  | false =>
    have TR := hid (trunc_bad Mc T labc r t w1 hc hr)
    have e1 : res = 0 := by rw [← HRES.out]; unfold TS.remov; rw [if_neg (by rw [hr]; simp)]
    have HB := hid hB
    clear hr hB hl hc ht HRES
    go_wp2_with (first | (go_at_call 52; refine TR.out.mono ?_; rintro e w2 ⟨rfl, rfl⟩))
    go_ret
    exact ⟨by rw [e1]; rfl, HB.out.is_ext⟩
end Go.Proofs.Qxb6500716a
