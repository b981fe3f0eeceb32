/-
  FailureIsExplicitAndHarmless: a request asked again, the states of the walk.
-/
import Derived.Test.Qxb6500716aLg
import Derived.Test.Qxb6500716aSm
import Derived.Test.Qxb6500716aQk
import Derived.Test.Qxb6500716aDa
namespace Go.Proofs.Qxb6500716a
open Go.RowKit Go.Maps
set_option linter.unusedSimpArgs false
set_option linter.unusedVariables false
set_option maxRecDepth 20000
set_option maxHeartbeats 4000000
def plz (c t x : Value) (pv dv : Value) : Nat → Value
  | 0 => c
  | 1 => t
  | 2 => pv
  | 3 => dv
  | _ => x
/-- While a request is asked again on a copy of the table: what stands. -/
structure A7 (w4 w : World) (mt : Nat) (T : TS) (z : Option Nat) (lab : Nat → Nat) (M : TM) : Prop where
  m : M.t = mt
  t : TAt w lab M T
  o : ∀ k, k < w4.heap.size → lab k = 0
  b : Below w4.heap.size w4 w
  z : ∀ p, z = some p → Blk w p 5 (plz (.int .u8 0) (.int .i64 (0)) (.int .i64 (0)) (.slice none 0 0) (.slice none 0 0)) ∧ lab p = 0 ∧ w4.heap.size ≤ p
section
variable {w4 w w' : World} {mt : Nat} {T : TS} {z : Option Nat} {lab : Nat → Nat} {M : TM}
theorem A7.below (h : A7 w4 w mt T z lab M) (hb : Below w.heap.size w w') : A7 w4 w' mt T z lab M :=
  ⟨h.m, h.t.below hb, h.o, h.b.trans (hb.mono h.b.size), fun p hp => ⟨(h.z p hp).1.below hb, (h.z p hp).2⟩⟩
theorem A7.al (h : A7 w4 w mt T none lab M) (hw : w' = w.alloc (.cells #[.int .u8 0, .int .i64 (0), .slice none 0 0, .slice none 0 0, .int .i64 (0)] 34)) : A7 w4 w' mt T (some w.heap.size) (upd lab w.heap.size 0) M := by
  have hb : Below w.heap.size w w' := by rw [hw]; (repeat (first | with_reducible exact Below.rf _ | with_reducible exact World.below_ext _ _ | with_reducible refine Below.ex ?_ _ | with_reducible refine Below.al ?_ _ | with_reducible refine Below.setCell ?_ (by simp) _ | with_reducible refine Below.drew ?_))
  have hs := h.b.size
  refine ⟨h.m, (h.t.relab (fun k hk => upd_ne _ _ (by omega))).below hb, fun k hk => by rw [upd_ne _ _ (by omega)]; exact h.o k hk, h.b.trans (hb.mono h.b.size), fun p hp => ?_⟩
  obtain rfl := Option.some.inj hp
  refine ⟨?_, upd_at _ _ _, hs⟩
  rw [hw]
  refine ⟨by (simp <;> omega), fun i hi => ?_, fun i hi => by simp [go_sem, ↓IntWalk.iteOmega]⟩
  rcases (by omega : i = 0 ∨ i = 1 ∨ i = 2 ∨ i = 3 ∨ i = 4) with rfl | rfl | rfl | rfl | rfl <;> simp [go_sem, ↓IntWalk.iteOmega, plz]
theorem A7.relab (h : A7 w4 w mt T z lab M) {lab' : Nat → Nat} (hl : ∀ k, k < w.heap.size → lab' k = lab k) : A7 w4 w mt T z lab' M :=
  ⟨h.m, h.t.relab hl, fun k hk => (hl k (Nat.lt_of_lt_of_le hk h.b.size)).trans (h.o k hk), h.b, fun p hp => ⟨(h.z p hp).1, (hl p (h.z p hp).1.lt).trans (h.z p hp).2.1, (h.z p hp).2.2⟩⟩
theorem A7.kept (h : A7 w4 w mt T z lab M) {lab' : Nat → Nat} {M' : TM} (hT : TAt w' lab' M' T) (hm : M'.t = M.t) (hl : ∀ k, k < w.heap.size → lab' k = lab k) (hk : KeptL lab plnL w w') : A7 w4 w' mt T z lab' M' :=
  ⟨hm.trans h.m, hT, fun k hk' => (hl k (Nat.lt_of_lt_of_le hk' h.b.size)).trans (h.o k hk'), ⟨hk.os.trans h.b.os, hk.tape.trans h.b.tape, hk.output.trans h.b.output, Nat.le_trans h.b.size hk.size, fun k hk' => (hk.block k (Nat.lt_of_lt_of_le hk' h.b.size) (by rw [h.o k hk']; unfold plnL; omega)).trans (h.b.block k hk')⟩, fun p hp => ⟨(h.z p hp).1.keptL hk (by rw [(h.z p hp).2.1]; unfold plnL; omega), (hl p (h.z p hp).1.lt).trans (h.z p hp).2.1, (h.z p hp).2.2⟩⟩
/-- The answer, stored. -/
theorem A7.store {p : Nat} (h : A7 w4 w mt T (some p) lab M) (v0 v1 v2 v3 v4 : Value) (hw : w' = (((((w.setCell ⟨p, 0, none⟩ v0).setCell ⟨p, 1, none⟩ v1).setCell ⟨p, 2, none⟩ v2).setCell ⟨p, 3, none⟩ v3).setCell ⟨p, 4, none⟩ v4)) : TAt w' lab M T ∧ Below w4.heap.size w4 w' ∧ Blk w' p 5 (plz v0 v1 v4 v2 v3) := by
  obtain ⟨hB, hl, hp⟩ := h.z p rfl
  have hk : KeptL lab (fun x => x = 0) w w' := by
    rw [hw]
    refine KeptL.set ?_ hl _
    refine KeptL.set ?_ hl _
    refine KeptL.set ?_ hl _
    refine KeptL.set ?_ hl _
    refine KeptL.set ?_ hl _
    exact KeptL.refl _ _ _
  refine ⟨h.t.keptL hk (by omega) (by omega) (by omega), ?_, ?_⟩
  · rw [hw]
    refine Below.setCell ?_ hp _
    refine Below.setCell ?_ hp _
    refine Below.setCell ?_ hp _
    refine Below.setCell ?_ hp _
    refine Below.setCell ?_ hp _
    exact h.b
  · rw [hw]
    refine (((((hB.set 0 v0 (by omega)).set 1 v1 (by omega)).set 2 v2 (by omega)).set 3 v3 (by omega)).set 4 v4 (by omega)).congr (fun i hi => ?_)
    rcases (by omega : i = 0 ∨ i = 1 ∨ i = 2 ∨ i = 3 ∨ i = 4) with rfl | rfl | rfl | rfl | rfl <;> rfl
end
end Go.Proofs.Qxb6500716a
