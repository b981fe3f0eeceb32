/-
  arrived, expand: the walks.
-/
import Derived.Test.Qxb6500716aPu
namespace Go.Proofs.Qxb6500716a
open Go.RowKit Go.Maps
set_option linter.unusedSimpArgs false
set_option linter.unusedVariables false
set_option maxRecDepth 20000
set_option maxHeartbeats 4000000

def TS.arrd (T : TS) (q : Rq) (bay : Int) (x : Nd) : Bool := decide (x.l = q.gl.length) && (decide ((x.c : Int) = bay) && T.freeF q.r bay (q.t + x.o))
theorem arrived_any (M : TM) (T : TS) (N : PM) (S : PS) (n rb fb : Nat) (F : FS) (lab : Nat → Nat) (q : Rq) (gv tv av : Value) (bay hz : Int) (x : Nd) (w : World) (hT : TAt w lab M T) (hP : PAt w lab N fb M.t S n) (hR : RAt w lab rb N.p fb F q gv tv av bay hz) (ht : -4000000000 ≤ q.t ∧ q.t ≤ 4000000000) (ho : x.o ≤ 1000) (hg : q.gl.length ≤ 16) :
    Calls Try.prog 88 #[.pointer (some ⟨rb, 0, none⟩), .agg #[.int .i64 (x.c), .int .i64 (x.o), .int .i64 (x.l), .int .i64 (x.p)]] w fun e w' => e = .returned (.bool (T.arrd q bay x)) ∧ ∃ z, w' = w.ext z := by
  have c1 := hP.c1
  have hpl := hP.bp.lt
  have r0 : w.cell? ⟨rb, 0, none⟩ = some (.pointer (some ⟨N.p, 0, none⟩)) := hR.b.is 0 (by omega)
  have r1 : w.cell? ⟨rb, 1, none⟩ = some (.int .i64 (q.r)) := hR.b.is 1 (by omega)
  have r3 : w.cell? ⟨rb, 3, none⟩ = some (.int .i64 (q.t)) := hR.b.is 3 (by omega)
  have r4 : w.cell? ⟨rb, 4, none⟩ = some gv := hR.b.is 4 (by omega)
  have r10 : w.cell? ⟨rb, 10, none⟩ = some (.int .i64 (bay)) := hR.b.is 10 (by omega)
  have hrl := hR.b.lt
  have FF := hid (fun (w' : World) (h : Below w.heap.size w w') => freeF_any M T lab q.r bay (q.t + x.o) w' (hT.below h))
  obtain ⟨go, gc, hgv, -⟩ := hR.g.ex
  obtain ⟨res, hres⟩ : ∃ y, T.arrd q bay x = y := ⟨_, rfl⟩
  rw [hres]
  unfold TS.arrd at hres
  obtain ⟨c, o, l, p⟩ := x
  simp only at *
  generalize q.gl.length = k at *
  rw [hgv] at r4
  generalize T.freeF q.r bay (q.t + o) = ff at *
  generalize q.r = r at *
  generalize q.t = t at *
  clear hT hP hR hgv
  by_cases g1 : l = k
  · subst g1
    have d1 : ((l : Int) == (l : Int)) = true := by simp
    by_cases g2 : (c : Int) = bay
    · have d2 : ((c : Int) == bay) = true := by simp [g2]
      have HE : Hid (ff = res) := by
        show ff = res
        rw [← hres]; simp [g2]
      clear hres g2
      go_enter Try.func88, Try.ntmps88
      go_wp2
      first | with_reducible refine wp_region_ext2 (by kernel_rfl) (by kernel_rfl) ?_ | refine wp_region_ext (by kernel_rfl) (by kernel_rfl) ?_
      repeat (go_big_quiet_step ((go_at_call 58; exact Calls.ext_of (FF.out _ (by (repeat (first | with_reducible exact Below.rf _ | with_reducible exact World.below_ext _ _ | with_reducible refine Below.ex ?_ _ | with_reducible refine Below.al ?_ _ | with_reducible refine Below.setCell ?_ (by simp) _ | with_reducible refine Below.drew ?_)))))))
      refine wpQuiet_nil ?_
      rintro _ ⟨z, rfl⟩
      go_wp2
      go_ret
      refine ⟨ret_bool HE.out, ?_⟩
      refine Below.is_ext ?_
      repeat (first | with_reducible exact Below.rf _ | with_reducible exact World.below_ext _ _ | with_reducible refine Below.ex ?_ _ | with_reducible refine Below.al ?_ _ | with_reducible refine Below.setCell ?_ (by simp) _ | with_reducible refine Below.drew ?_)
    · have d2 : ((c : Int) == bay) = false := by simp [g2]
      have HE : Hid (false = res) := by
        show false = res
        rw [← hres]; simp [g2]
      clear hres g2
      go_enter Try.func88, Try.ntmps88
      go_wp2
      first | with_reducible refine wp_region_ext2 (by kernel_rfl) (by kernel_rfl) ?_ | refine wp_region_ext (by kernel_rfl) (by kernel_rfl) ?_
      repeat (go_big_quiet_step (fail))
      refine wpQuiet_nil ?_
      rintro _ ⟨z, rfl⟩
      go_wp2
      go_ret
      refine ⟨ret_bool HE.out, ?_⟩
      refine Below.is_ext ?_
      repeat (first | with_reducible exact Below.rf _ | with_reducible exact World.below_ext _ _ | with_reducible refine Below.ex ?_ _ | with_reducible refine Below.al ?_ _ | with_reducible refine Below.setCell ?_ (by simp) _ | with_reducible refine Below.drew ?_)
  · have d1 : ((l : Int) == (k : Int)) = false := by simp; omega
    have HE : Hid (false = res) := by
      show false = res
      rw [← hres]; simp [g1]
    clear hres g1
    go_enter Try.func88, Try.ntmps88
    go_wp2
    first | with_reducible refine wp_region_ext2 (by kernel_rfl) (by kernel_rfl) ?_ | refine wp_region_ext (by kernel_rfl) (by kernel_rfl) ?_
    repeat (go_big_quiet_step (fail))
    refine wpQuiet_nil ?_
    rintro _ ⟨z, rfl⟩
    go_wp2
    go_ret
    refine ⟨ret_bool HE.out, ?_⟩
    refine Below.is_ext ?_
    repeat (first | with_reducible exact Below.rf _ | with_reducible exact World.below_ext _ _ | with_reducible refine Below.ex ?_ _ | with_reducible refine Below.al ?_ _ | with_reducible refine Below.setCell ?_ (by simp) _ | with_reducible refine Below.drew ?_)
end Go.Proofs.Qxb6500716a
