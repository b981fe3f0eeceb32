/-
  The model: Room.
-/
import Derived.Test.Qxb6500716aMa
import Derived.Test.Qxb6500716aDd
import Derived.Test.Qxb6500716aTm
namespace Go.Proofs.Qxb6500716a
open Go.RowKit Go.Maps
set_option linter.unusedSimpArgs false
set_option linter.unusedVariables false
set_option maxRecDepth 20000
set_option maxHeartbeats 4000000
set_option maxHeartbeats 4000000 in
theorem room_any (mb fb : Nat) (M : TM) (T : TS) (lab : Nat → Nat) (q : Rq) (gv : Value) (arr : Int) (w : World) (hT : TAt w lab M T) (hm : MoAt w mb fb M.t) (hr : T.rOk q.r = true) (ht : -4000000000 ≤ q.t ∧ q.t ≤ 4000000000) (ha : -8000000000 ≤ arr ∧ arr ≤ 8000000000) :
    Calls Try.prog 55 #[.pointer (some ⟨mb, 0, none⟩), .agg #[.int .i64 ((q).r), .int .i64 ((q).s), .int .i64 ((q).t), gv, .int .i64 ((q).h), .int .i64 ((q).m)], .int .i64 (arr)] w fun e w' => e = .returned (.bool (decide (((T.trunc q.r q.t).held : Int) + (arr - q.t) + 1 ≤ (T.cap : Int)))) ∧ Below w.heap.size w w' := by
  have m1 := hm.c1
  have hml := hm.lt
  have HT := hid hT
  have hh := hT.bd.held
  have hcp := hT.bd.cap
  have htr := trunc_held T q.r q.t
  have HR := hid hr
  obtain ⟨hd, hhd⟩ : ∃ y, (T.trunc q.r q.t).held = y := ⟨_, rfl⟩
  rw [hhd] at htr ⊢
  have HHD := hid hhd
  obtain ⟨res, hres⟩ : ∃ y, decide ((hd : Int) + (arr - q.t) + 1 ≤ (T.cap : Int)) = y := ⟨_, rfl⟩
  rw [hres]
  clear hT hm hr hhd
  go_enter Try.func55, Try.ntmps55
  go_wp2_with (first | (go_at_call 19; refine hold ?_))
  unfold Hid
  refine calls_nm fun w1 hw1 => ?_
  have hb1 : Below w.heap.size w w1 := by rw [hw1]; (repeat (first | with_reducible exact Below.rf _ | with_reducible exact World.below_ext _ _ | with_reducible refine Below.ex ?_ _ | with_reducible refine Below.al ?_ _ | with_reducible refine Below.setCell ?_ (by simp) _ | with_reducible refine Below.drew ?_))
  have s0 : w1.cell? ⟨w.heap.size, 0, none⟩ = some (.int .i64 (q.r)) := by rw [hw1]; simp [go_sem, ↓IntWalk.iteOmega]
  have s2 : w1.cell? ⟨w.heap.size, 2, none⟩ = some (.int .i64 (q.t)) := by rw [hw1]; simp [go_sem, ↓IntWalk.iteOmega]
  have hsl : w.heap.size < w1.heap.size := by rw [hw1]; simp
  refine (clone_any M T lab w1 (HT.out.below hb1)).mono ?_
  rintro e w2 ⟨lab2, M2, rfl, hT2, hl2, hb2⟩
  have s0' := (World.cell?_of_block (hb2.block _ hsl)).trans s0
  have s2' := (World.cell?_of_block (hb2.block _ hsl)).trans s2
  have hsl' := Nat.lt_of_lt_of_le hsl hb2.size
  obtain ⟨sb, hsb⟩ : ∃ y, w.heap.size = y := ⟨_, rfl⟩
  have HSB := hid hsb
  have HB2 : Hid (Below w.heap.size w w2) := hb1.trans (hb2.mono hb1.size)
  have HL2 : Hid (∀ k, k < w1.heap.size → lab2 k = 0) := hl2
  have h01 : w.heap.size ≤ w1.heap.size := hb1.size
  rw [hsb] at s0' s2' hsl hsl' ⊢
  have HT2 := hid hT2
  clear hw1 hb1 s0 s2 hT2 hb2 hl2 m1 hml hsb HT
  go_wp2_with (first | (go_at_call 52; refine hold ?_))
  unfold Hid
  have CC := cutC_any M2 T lab2 q.r q.t w2 HT2.out (by unfold I64; omega)
  unfold TS.cutC at CC
  rw [if_pos HR.out] at CC
  refine CC.mono ?_
  rintro e w3 ⟨lab3, M3, rfl, hT3, hM3, -, hl3, hk3⟩
  simp only at hT3
  have hb3 : Below w.heap.size w w3 := HB2.out.trans ⟨hk3.os, hk3.tape, hk3.output, hk3.size, fun k hk => hk3.block k (Nat.lt_of_lt_of_le hk HB2.out.size) (by rw [HL2.out k (by omega)]; unfold tabL; omega)⟩
  have t2 : w3.cell? ⟨sb, 2, none⟩ = some (.int .i64 (q.t)) := (hk3.cell 2 hsl' (by rw [HL2.out sb hsl]; unfold tabL; omega)).trans s2'
  have hsl3 := Nat.lt_of_lt_of_le hsl' hk3.size
  rw [← hM3]
  have HE3 : Hid (∀ w' : World, Below w3.heap.size w3 w' → Calls Try.prog 76 #[.pointer (some ⟨M3.t, 0, none⟩)] w' fun e w'' => e = .returned (.int .i64 (hd)) ∧ ∃ z, w'' = w'.ext z) := fun w' h => by
    have := held_any M3 (T.trunc q.r q.t) lab3 w' (hT3.below h)
    rw [HHD.out] at this
    exact this
  have CP3 : Hid (∀ w' : World, Below w3.heap.size w3 w' → Calls Try.prog 79 #[.pointer (some ⟨M3.t, 0, none⟩)] w' fun e w'' => e = .returned (.int .i64 (T.cap)) ∧ w'' = w') := fun w' h => capacity_any M3 (T.trunc q.r q.t) lab3 w' (hT3.below h)
  have HB3 := hid hb3
  have e1 : IntKind.i64.wrap (arr - q.t) = arr - q.t := by simp [IntKind.wrap, IntKind.bits, IntKind.signed]; omega
  clear hb3 hT3 hk3 hl3 s0' s2' hsl' HT2 CC HB2 HL2 hM3 HHD HR
  go_wp2
  first | with_reducible refine wp_region_ext2 (by kernel_rfl) (by kernel_rfl) ?_ | refine wp_region_ext (by kernel_rfl) (by kernel_rfl) ?_
  repeat (go_big_quiet_step ((first | (go_at_call 76; exact Calls.ext_of (HE3.out _ (by (repeat (first | with_reducible exact Below.rf _ | with_reducible exact World.below_ext _ _ | with_reducible refine Below.ex ?_ _ | with_reducible refine Below.al ?_ _ | with_reducible refine Below.setCell ?_ (by simp) _ | with_reducible refine Below.drew ?_))))) | (go_at_call 79; exact Calls.ext_of_same (CP3.out _ (by (repeat (first | with_reducible exact Below.rf _ | with_reducible exact World.below_ext _ _ | with_reducible refine Below.ex ?_ _ | with_reducible refine Below.al ?_ _ | with_reducible refine Below.setCell ?_ (by simp) _ | with_reducible refine Below.drew ?_))))))))
  refine wpQuiet_nil ?_
  rintro w4 ⟨z, hw2⟩
  have HB4 : Hid (Below w.heap.size w w4) := HB3.out.trans (Below.mono (by rw [hw2]; exact World.below_ext w3 _) HB3.out.size)
  clear hw2
  go_wp2
  go_ret
  exact ⟨rfl, HB4.out⟩
end Go.Proofs.Qxb6500716a
