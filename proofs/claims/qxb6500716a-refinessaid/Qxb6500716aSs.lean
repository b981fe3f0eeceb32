/-
  States: the walk.
-/
import Derived.Test.Qxb6500716aQk
import Derived.Test.Qxb6500716aDa
namespace Go.Proofs.Qxb6500716a
open Go.RowKit Go.Maps
set_option linter.unusedSimpArgs false
set_option linter.unusedVariables false
set_option maxRecDepth 20000
set_option maxHeartbeats 4000000
set_option maxHeartbeats 4000000 in
theorem states_any (M : TM) (T : TS) (N : PM) (S : PS) (n fb : Nat) (F : FS) (lab : Nat → Nat) (q : Rq) (gv : Value) (w : World) (hF : FAt w lab fb F) (hT : TAt w lab M T) (hP : PAt w lab N fb M.t S n) (hg : GAt w lab gv q.gl) (h0 : rcode F T q = 0) :
    Calls Try.prog 14 #[.pointer (some ⟨N.p, 0, none⟩), .agg #[.int .i64 ((q).r), .int .i64 ((q).s), .int .i64 ((q).t), gv, .int .i64 ((q).h), .int .i64 ((q).m)]] w fun e w' => e = .returned (.int .i64 (q.states F T)) ∧ ∃ z, w' = w.ext z := by
  have hrk := rok_of hF.ok h0
  have c0 := hP.c0
  have c1 := hP.c1
  have hpl := hP.bp.lt
  have EN : Hid (∀ w' : World, Below w.heap.size w w' → Calls Try.prog 25 #[.pointer (some ⟨M.t, 0, none⟩)] w' fun e w'' => e = .returned (.int .i64 ((T.base : Int) + 256)) ∧ w'' = w') := fun w' h => end_any M T lab w' (hT.below h)
  have CL : Hid (∀ w' : World, Below w.heap.size w w' → Calls Try.prog 30 #[.pointer (some ⟨fb, 0, none⟩)] w' fun e w'' => e = .returned (.int .i64 (F.n)) ∧ w'' = w') := fun w' h => cells_any fb F lab w' (hF.below h)
  obtain ⟨go, gc, hgv, -⟩ := hg.ex
  have hk16 := hrk.gok.1
  have hn384 := hF.ok.n
  have hhz := hrk.hz
  have hqt := hrk.t
  have hqh := hrk.h
  have hbs := hT.bd.base
  unfold Rq.states
  obtain ⟨K, hK⟩ : ∃ y, q.gl.length = y := ⟨_, rfl⟩
  obtain ⟨hz, hz2⟩ : ∃ y : Nat, q.hz T = y := ⟨(q.hz T).toNat, by omega⟩
  obtain ⟨fn, hfn⟩ : ∃ y, F.n = y := ⟨_, rfl⟩
  rw [hK] at hgv hk16 ⊢
  rw [hfn] at CL hn384 ⊢
  rw [hz2] at hhz ⊢
  subst hgv
  have hmin := fun (w : World) (ty : TypeId) => run_min w q.h ((T.base : Int) + 256 - 1 - q.t) (hz : Int) (by rw [← hz2]; unfold Rq.hz; congr 1; omega) ty
  have hp1 : (hz + 1) * (K + 1) ≤ 256 * 17 := Nat.mul_le_mul (by omega) (by omega)
  have hp2 : (hz + 1) * (K + 1) * fn ≤ 256 * 17 * 384 := Nat.mul_le_mul hp1 (by omega)
  obtain ⟨x1, hx1⟩ : ∃ y, (hz + 1) * (K + 1) = y := ⟨_, rfl⟩
  rw [hx1] at hp1 hp2
  obtain ⟨x2, hx2⟩ : ∃ y, x1 * fn = y := ⟨_, rfl⟩
  rw [hx2] at hp2
  have e1 : ((hz : Int) + 1) * ((K : Int) + 1) = (x1 : Int) := by rw [← hx1]; simp only [Int.natCast_mul, Int.natCast_add, Int.natCast_one]
  have e2 : (x1 : Int) * (fn : Int) = (x2 : Int) := by rw [← hx2, Int.natCast_mul]
  have f1 : IntKind.i64.wrap (x1 : Int) = (x1 : Int) := by simp [IntKind.wrap, IntKind.bits, IntKind.signed]; omega
  have f2 : IntKind.i64.wrap (x2 : Int) = (x2 : Int) := by simp [IntKind.wrap, IntKind.bits, IntKind.signed]; omega
  rw [e1, e2]
  clear hF hT hP hg h0 hrk hK hz2 hfn hx1 hx2
  go_enter Try.func14, Try.ntmps14
  go_wp2
  first | with_reducible refine wp_region_ext2 (by kernel_rfl) (by kernel_rfl) ?_ | refine wp_region_ext (by kernel_rfl) (by kernel_rfl) ?_
  repeat (go_big_quiet_step ((first | (go_at_call 25; exact Calls.ext_of_same (EN.out _ (by (repeat (first | with_reducible exact Below.rf _ | with_reducible exact World.below_ext _ _ | with_reducible refine Below.ex ?_ _ | with_reducible refine Below.al ?_ _ | with_reducible refine Below.setCell ?_ (by simp) _ | with_reducible refine Below.drew ?_))))) | (go_at_call 30; exact Calls.ext_of_same (CL.out _ (by (repeat (first | with_reducible exact Below.rf _ | with_reducible exact World.below_ext _ _ | with_reducible refine Below.ex ?_ _ | with_reducible refine Below.al ?_ _ | with_reducible refine Below.setCell ?_ (by simp) _ | with_reducible refine Below.drew ?_))))))))
  refine wpQuiet_nil ?_
  rintro _ ⟨z, rfl⟩
  go_wp2
  go_ret
  exact ⟨by simp [e1, e2], Below.is_ext (by (repeat (first | with_reducible exact Below.rf _ | with_reducible exact World.below_ext _ _ | with_reducible refine Below.ex ?_ _ | with_reducible refine Below.al ?_ _ | with_reducible refine Below.setCell ?_ (by simp) _ | with_reducible refine Below.drew ?_)))⟩
end Go.Proofs.Qxb6500716a
