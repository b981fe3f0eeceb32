/-
  StatsCount: the law.
-/
import Derived.Test.Qxb6500716aDk
import Derived.Test.Qxb6500716aDl
import Derived.Test.Qxb6500716aSc
namespace Go.Proofs.Qxb6500716a
open Go.RowKit Go.Maps
set_option linter.unusedSimpArgs false
set_option linter.unusedVariables false
set_option maxRecDepth 20000
set_option maxHeartbeats 4000000
theorem fld85 (w : World) (f : Nat → Int) : (Instr.field 85 (.agg #[.int .i64 ((f) 0), .int .i64 ((f) 1), .int .i64 ((f) 2), .int .i64 ((f) 3), .int .i64 ((f) 4), .int .i64 ((f) 5), .int .i64 ((f) 6), .int .i64 ((f) 7), .int .i64 ((f) 8), .int .i64 ((f) 9), .int .i64 ((f) 10)]) 0).run Try.prog w = .ok (.int .i64 (f 0)) w := by
  simp [Instr.field, go_sem, Try.underlying85, part, asAgg]
def Dk.zero : Dk := ⟨none, false, ⟨0, 0, 0, [], 0, 0⟩, ⟨0, 0, [], [], 0⟩⟩
/-- A script is being played. -/
structure Play (w0 wr : World) (lab : Nat → Nat) (d i : Nat) (m : DM) (D : Dk) : Prop where
  dk : DkAt wr lab d m D
  bl : Below w0.heap.size w0 wr
  l0 : ∀ j, j < w0.heap.size → lab j = 0
  wb : ∀ X, D.W = some X → WB X (1048577 * i)
section
variable {w0 wr w5 : World} {lab lab5 : Nat → Nat} {d i : Nat} {m m5 : DM} {D D' : Dk}
theorem Play.below (h : Play w0 wr lab d i m D) (hb : Below wr.heap.size wr w5) : Play w0 w5 lab d i m D := ⟨h.dk.below hb, h.bl.trans (hb.mono h.bl.size), h.l0, h.wb⟩
theorem Play.relab (h : Play w0 wr lab d i m D) (hl : ∀ j, j < wr.heap.size → lab5 j = lab j) : Play w0 wr lab5 d i m D := ⟨h.dk.relab hl, h.bl, fun j hj => (hl j (Nat.lt_of_lt_of_le hj h.bl.size)).trans (h.l0 j hj), h.wb⟩
theorem Play.fok (h : Play w0 wr lab d i m D) : ∀ X, D.W = some X → FOk X.F := by
  intro X hX
  have := h.dk.wd
  rw [hX] at this
  obtain ⟨fb, M, N, n, -, -, -, hF, -, -⟩ := this
  exact hF.ok
theorem Play.next (h : Play w0 wr lab d i m D) (o : Opr) (hd : DkAt w5 lab5 d m5 (D.step o).1) (hl : ∀ j, j < wr.heap.size → lab5 j = lab j) (hk : KD lab d wr w5) : Play w0 w5 lab5 d (i + 1) m5 (D.step o).1 := by
  have hs := h.bl.size
  refine ⟨hd, ⟨by rw [hk.k.os, h.bl.os], by rw [hk.k.tape, h.bl.tape], by rw [hk.k.output, h.bl.output], by have := hk.size; omega, fun j hj => ?_⟩, fun j hj => by rw [hl j (by omega)]; exact h.l0 j hj, ?_⟩
  · rw [hk.k.block j (by omega) (by rw [h.l0 j hj]; unfold doL; omega), h.bl.block j hj]
  · have := step_wb (o := o) (by omega) h.wb h.fok
    rw [show (1048577 : Int) * ((i + 1 : Nat) : Int) = 1048577 * i + 1048577 by omega]
    exact this
theorem Play.call (h : Play w0 wr lab d i m D) {sb so n : Nat} {o : Nat → Opr} {lao : Nat → Option Addr} {lcap : Nat → Nat} (hS : Scr w0 sb so n o lao lcap) (hi : i < n) (hn : n ≤ 65536) (hl : (o i).l.length ≤ 65536) :
    Calls Try.prog 12 #[.pointer (some ⟨d, 0, none⟩), .agg #[.int .i64 ((o i).K), .int .i64 ((o i).A), .int .i64 ((o i).B), .int .i64 ((o i).C), .int .i64 ((o i).D), .int .i64 ((o i).E), .slice (lao i) (o i).l.length (lcap i)]] wr (doPost lab d (D.step (o i)) wr) := by
  obtain ⟨hA, hB, hC, hD, hE⟩ := hS.op i hi
  refine do_any d m D (o i) _ lab wr h.dk (((hS.iv i hi).relab (lab' := lab) (fun b hb _ => Or.inl (h.l0 b hb))).keptL (A := fun _ => False) (KeptL.of_below h.bl) (fun _ h => h.elim)) ⟨hA, hB, hC, hD, hE, hl⟩ (fun X hX => (h.wb X hX).ok (by omega))
end
theorem Play.kept1 {w0 wr w5 : World} {lab : Nat → Nat} {d i tb : Nat} {m : DM} {D : Dk} (h : Play w0 wr lab d i m D) (hk : KeptBut tb wr w5) (hl : lab tb = 1) (hd : d ≠ tb) (hb : w0.heap.size ≤ tb) : Play w0 w5 lab d i m D :=
  ⟨h.dk.kept1 hk hl hd, h.bl.trans (hk.to_below hb h.bl.size), h.l0, h.wb⟩
theorem law10 (sb so n cap : Nat) (o : Nat → Opr) (lao : Nat → Option Addr) (lcap : Nat → Nat) (w : World) (hS : Scr w sb so n o lao lcap) (hn : n ≤ 9223372036854775807) :
    Calls Try.prog 10 #[.slice (some ⟨sb, so, none⟩) n cap] w fun e w' => e = .returned (.bool true) ∧ Below w.heap.size w w' := by
  have HS := hid hS
  have SM := hid (small_any sb so n cap o lao lcap w hS hn)
  clear hS
  go_enter Try.func10, Try.ntmps10
  go_wp2_with (go_at_call 11; refine hold ?_)
  unfold Hid
  refine SM.out.mono ?_
  rintro e w1 ⟨⟨b, rfl, hsm⟩, hw1⟩
  obtain rfl : w = w1 := hw1.symm
  clear hw1 SM
  cases b with
  | false =>
    go_wp2
    go_ret
    exact ⟨rfl, Below.rf _⟩
  | true =>
  obtain ⟨hn1, hn2⟩ := hsm rfl
  have HN2 := hid hn2
  clear hsm hn2
  go_wp2
  refine wp_nm fun w1 hw1 => ?_
  have P0 : Hid (Play w w1 (fun b => if b < w.heap.size then 0 else 1) w.heap.size 0 ⟨.pointer none, .pointer none, .pointer none, .slice none 0 0, .slice none 0 0, .slice none 0 0⟩ Dk.zero) := by
    unfold Hid
    rw [hw1]
    refine ⟨⟨⟨by (simp <;> omega), fun i hi => ?_, fun i hi => by simp [go_sem, ↓IntWalk.iteOmega]⟩, by simp, ⟨rfl, rfl, rfl⟩, ⟨⟨none, 0, rfl, Nat.le_refl _⟩, by simp [Dk.zero], fun c hc => by simp [Dk.zero] at hc, fun j c hj => by simp [Dk.zero] at hj⟩, Ints.nil _ _, Ints.nil _ _, fun h => absurd rfl h⟩, by (repeat (first | with_reducible exact Below.rf _ | with_reducible exact World.below_ext _ _ | with_reducible refine Below.ex ?_ _ | with_reducible refine Below.al ?_ _ | with_reducible refine Below.setCell ?_ (by simp) _ | with_reducible refine Below.drew ?_)), fun j hj => if_pos hj, fun X hX => by simp [Dk.zero] at hX⟩
    rcases (by omega : i = 0 ∨ i = 1 ∨ i = 2 ∨ i = 3 ∨ i = 4 ∨ i = 5 ∨ i = 6 ∨ i = 7 ∨ i = 8 ∨ i = 9 ∨ i = 10 ∨ i = 11 ∨ i = 12 ∨ i = 13 ∨ i = 14) with rfl | rfl | rfl | rfl | rfl | rfl | rfl | rfl | rfl | rfl | rfl | rfl | rfl | rfl | rfl <;> simp [go_sem, ↓IntWalk.iteOmega, dcell, Dk.zero]
  have T0 : Hid (Blk w1 (w.heap.size + 1) 11 (fun j => .int .i64 (wantOf Dk.zero j))) := by
    unfold Hid
    rw [hw1]
    refine ⟨by (simp <;> omega), fun i hi => ?_, fun i hi => by simp [go_sem, ↓IntWalk.iteOmega]⟩
    rcases (by omega : i = 0 ∨ i = 1 ∨ i = 2 ∨ i = 3 ∨ i = 4 ∨ i = 5 ∨ i = 6 ∨ i = 7 ∨ i = 8 ∨ i = 9 ∨ i = 10) with rfl | rfl | rfl | rfl | rfl | rfl | rfl | rfl | rfl | rfl | rfl <;> simp [go_sem, ↓IntWalk.iteOmega, wantOf, Dk.zero]
  clear hw1
  obtain ⟨d, hd⟩ : ∃ y, w.heap.size = y := ⟨_, rfl⟩
  obtain ⟨l1, hl1⟩ : ∃ y, (fun b => if b < w.heap.size then 0 else 1) = y := ⟨_, rfl⟩
  have hlt1 : l1 (w.heap.size + 1) = 1 := by rw [← hl1]; exact if_neg (by omega)
  rw [hl1] at P0
  clear hl1
  have hdw : w.heap.size ≤ d := by omega
  rw [hd] at P0 T0 hlt1 ⊢
  clear hd
  go_loopw [14] (fun v wr => ∃ (i : Nat) (lab : Nat → Nat) (m : DM) (D : Dk), v = .int .i64 (i) ∧ i ≤ n ∧ lab (d + 1) = 1 ∧ Play w wr lab d i m D ∧ Blk wr (d + 1) 11 (fun j => .int .i64 (wantOf D j))) (fun v _ => n - (intOf v).toNat)
  case atStart => exact ⟨0, l1, _, _, rfl, Nat.zero_le _, hlt1, P0.out, T0.out⟩
  case round =>
    obtain ⟨i, lab, m, D, rfl, hi, hlt, hP, hT⟩ := hrel
    clear P0 T0 hlt1 w1
    by_cases hin : i < n
    · obtain ⟨c0, c1, c2, c3, c4, c5, c6⟩ := (HS.out.below hP.bl).cells i hin
      have hsb := (HS.out.below hP.bl).hsb
      have HP := hid hP
      have HT := hid hT
      have di : decide ((i : Int) < (n : Int)) = true := by simp; omega
      have din : decide (i < n) = true := by simp; omega
      clear hP hT
      go_wp2_with (first | (go_at_call 12; refine hold ?_))
      unfold Hid
      refine calls_nm fun w4 hw4 => ?_
      have B4 : Below wr.heap.size wr w4 := by rw [hw4]; (repeat (first | with_reducible exact Below.rf _ | with_reducible exact World.below_ext _ _ | with_reducible refine Below.ex ?_ _ | with_reducible refine Below.al ?_ _ | with_reducible refine Below.setCell ?_ (by simp) _ | with_reducible refine Below.drew ?_))
      have X4 : Blk w4 wr.heap.size 7 (ocell (o i) (.slice (lao i) (o i).l.length (lcap i))) := by
        rw [hw4]
        refine ⟨by (simp <;> omega), fun i hi => ?_, fun i hi => by simp [go_sem, ↓IntWalk.iteOmega]⟩
        rcases (by omega : i = 0 ∨ i = 1 ∨ i = 2 ∨ i = 3 ∨ i = 4 ∨ i = 5 ∨ i = 6) with rfl | rfl | rfl | rfl | rfl | rfl | rfl <;> simp [go_sem, ↓IntWalk.iteOmega, ocell]
      have hud : ∀ j, j < wr.heap.size → upd lab wr.heap.size 0 j = lab j := fun j hj => upd_ne _ _ (by omega)
      have P4 := (HP.out.relab hud).below B4
      have T4 := HT.out.below B4
      have ht4 : upd lab wr.heap.size 0 (d + 1) = 1 := (hud _ HT.out.lt).trans hlt
      clear hw4
      refine (P4.call HS.out hin hn1 (HN2.out i hin)).mono ?_
      rintro e w5 ⟨l5, m5, av, rfl, hD5, hIv, hl5, hk5⟩
      have P5 := P4.next (o i) hD5 hl5 hk5
      have T5 : Blk w5 (d + 1) 11 (fun j => .int .i64 (wantOf D j)) := T4.of_block hk5.size (hk5.o _ T4.lt ht4 (by omega))
      have X5 := X4.keptL hk5.k (by rw [upd_at]; unfold doL; omega)
      have ht5 : l5 (d + 1) = 1 := (hl5 _ T4.lt).trans ht4
      have hsc := step_cases D (o i) (fun X hX => ⟨HP.out.fok X hX, (HP.out.wb X hX).ms⟩)
      have HWB := hid HP.out.wb
      obtain ⟨xb, hxb⟩ : ∃ y, wr.heap.size = y := ⟨_, rfl⟩
      rw [hxb] at X5 ⊢
      obtain ⟨D', hD'⟩ : ∃ y, (D.step (o i)).1 = y := ⟨_, rfl⟩
      rw [hD'] at hsc P5
      clear hxb hIv hD5 hl5 hk5 B4 X4 hud P4 T4 ht4 HP HT c0 c1 c2 c3 c4 c5 c6 hsb hlt hD'
      have x0 : w5.cell? ⟨xb, 0, none⟩ = some (.int .i64 ((o i).K)) := X5.is 0 (by omega)
      have hxl := X5.lt
      have hdl := P5.dk.b.lt
      have htl := T5.lt
      have d3 : w5.cell? ⟨d, 3, none⟩ = some (.bool D'.ask) := P5.dk.b.is 3 (by omega)
      have d2 : w5.cell? ⟨d, 2, none⟩ = some m5.pv := P5.dk.b.is 2 (by omega)
      have HP5 := hid P5
      have HT5 := hid T5
      clear X5
      rcases hsc with ⟨hask, hsc⟩ | ⟨hask, hK0, X, T, S, hX, hfx, hX', hpl, hq, hms, hst⟩
      · rw [hask] at d3
        have HD' : (D.W = none ∧ D'.W = none) ∨ ∃ X', D'.W = some X' ∧ ((o i).K = 0 ∧ X'.S.st = (fun _ => 0) ∨ wantOf D = X'.S.st) := by
          rcases hsc with h | ⟨X, T, h1, -, h3⟩ | ⟨h1, F, c, h3⟩
          · exact Or.inl h
          · exact Or.inr ⟨_, h3, Or.inr (by unfold wantOf; rw [h1])⟩
          · exact Or.inr ⟨_, h3, Or.inl ⟨h1, rfl⟩⟩
        clear hsc hask
        rcases HD' with ⟨hN, hN'⟩ | ⟨X', hX', hor⟩
        · have hpv : m5.pv = .pointer none := by
            have := P5.dk.wd
            rw [hN'] at this
            exact this.2.2
          rw [hpv] at d2
          have hwd : wantOf D' = wantOf D := by unfold wantOf; rw [hN, hN']
          have HWD := hid hwd
          clear P5 T5 hpv hN hN' hwd
          by_cases hK : (o i).K = 0
          · have dK : ((o i).K == 0) = true := by simp [hK]
            go_wp2
            first | with_reducible refine wp_region_ext2 (by kernel_rfl) (by kernel_rfl) ?_ | refine wp_region_ext (by kernel_rfl) (by kernel_rfl) ?_
            repeat (go_big_quiet_step (fail))
            refine wpQuiet_nil ?_
            rintro _ ⟨z, rfl⟩
            go_wp2
            go_roundw
            case rel =>
              refine ⟨i + 1, l5, m5, D', by go_num, by omega, ht5, HP5.out.below (by (repeat (first | with_reducible exact Below.rf _ | with_reducible exact World.below_ext _ _ | with_reducible refine Below.ex ?_ _ | with_reducible refine Below.al ?_ _ | with_reducible refine Below.setCell ?_ (by simp) _ | with_reducible refine Below.drew ?_))), ?_⟩
              rw [HWD.out]
              exact HT5.out.below (by (repeat (first | with_reducible exact Below.rf _ | with_reducible exact World.below_ext _ _ | with_reducible refine Below.ex ?_ _ | with_reducible refine Below.al ?_ _ | with_reducible refine Below.setCell ?_ (by simp) _ | with_reducible refine Below.drew ?_)))
            case measure => (simp [intOf] <;> omega)
          · have dK : ((o i).K == 0) = false := by simp [hK]
            go_wp2
            first | with_reducible refine wp_region_ext2 (by kernel_rfl) (by kernel_rfl) ?_ | refine wp_region_ext (by kernel_rfl) (by kernel_rfl) ?_
            repeat (go_big_quiet_step (fail))
            refine wpQuiet_nil ?_
            rintro _ ⟨z, rfl⟩
            go_wp2
            go_roundw
            case rel =>
              refine ⟨i + 1, l5, m5, D', by go_num, by omega, ht5, HP5.out.below (by (repeat (first | with_reducible exact Below.rf _ | with_reducible exact World.below_ext _ _ | with_reducible refine Below.ex ?_ _ | with_reducible refine Below.al ?_ _ | with_reducible refine Below.setCell ?_ (by simp) _ | with_reducible refine Below.drew ?_))), ?_⟩
              rw [HWD.out]
              exact HT5.out.below (by (repeat (first | with_reducible exact Below.rf _ | with_reducible exact World.below_ext _ _ | with_reducible refine Below.ex ?_ _ | with_reducible refine Below.al ?_ _ | with_reducible refine Below.setCell ?_ (by simp) _ | with_reducible refine Below.drew ?_)))
            case measure => (simp [intOf] <;> omega)
        · have hw := P5.dk.wd
          rw [hX'] at hw
          obtain ⟨fb, M, N, n5, f1, f2, f3, hF, hT2, hPP⟩ := hw
          rw [f3] at d2
          have STA0 := hid (fun (w' : World) (h : Below w5.heap.size w5 w') => stats_any N X'.S n5 fb M.t l5 w' (hPP.below h))
          have hz := (P5.wb X' hX').z
          have hwd : wantOf D' = X'.S.st := by unfold wantOf; rw [hX']
          obtain ⟨st, hst⟩ : ∃ y, X'.S.st = y := ⟨_, rfl⟩
          rw [hst] at STA0 hz hor hwd
          have HST := hid hst
          have HZ := hid hz
          have HWD := hid hwd
          have h85 := fun w => eq85 w st
          have hfl := fun w => fld85 w st
          clear hz hwd hst f1 f2 f3 hF hT2 hX' P5
          by_cases hcs : (o i).K = 0 ∧ st 0 = 0
          · have dK : ((o i).K == 0) = true := by simp [hcs.1]
            have ds : (st 0 == 0) = true := by simp [hcs.2]
            have hz0 := HZ.out hcs.2
            have HZ0 := hid hz0
            generalize wantOf D = wv at *
            have t0 : (w5).cell? ⟨d + 1, 0, none⟩ = some (.int .i64 ((wv) 0)) := (T5).is 0 (by omega)
            have t1 : (w5).cell? ⟨d + 1, 1, none⟩ = some (.int .i64 ((wv) 1)) := (T5).is 1 (by omega)
            have t2 : (w5).cell? ⟨d + 1, 2, none⟩ = some (.int .i64 ((wv) 2)) := (T5).is 2 (by omega)
            have t3 : (w5).cell? ⟨d + 1, 3, none⟩ = some (.int .i64 ((wv) 3)) := (T5).is 3 (by omega)
            have t4 : (w5).cell? ⟨d + 1, 4, none⟩ = some (.int .i64 ((wv) 4)) := (T5).is 4 (by omega)
            have t5 : (w5).cell? ⟨d + 1, 5, none⟩ = some (.int .i64 ((wv) 5)) := (T5).is 5 (by omega)
            have t6 : (w5).cell? ⟨d + 1, 6, none⟩ = some (.int .i64 ((wv) 6)) := (T5).is 6 (by omega)
            have t7 : (w5).cell? ⟨d + 1, 7, none⟩ = some (.int .i64 ((wv) 7)) := (T5).is 7 (by omega)
            have t8 : (w5).cell? ⟨d + 1, 8, none⟩ = some (.int .i64 ((wv) 8)) := (T5).is 8 (by omega)
            have t9 : (w5).cell? ⟨d + 1, 9, none⟩ = some (.int .i64 ((wv) 9)) := (T5).is 9 (by omega)
            have t10 : (w5).cell? ⟨d + 1, 10, none⟩ = some (.int .i64 ((wv) 10)) := (T5).is 10 (by omega)
            have z0 := (T5).fz 0 (by omega)
            have z1 := (T5).fz 1 (by omega)
            have z2 := (T5).fz 2 (by omega)
            have z3 := (T5).fz 3 (by omega)
            have z4 := (T5).fz 4 (by omega)
            have z5 := (T5).fz 5 (by omega)
            have z6 := (T5).fz 6 (by omega)
            have z7 := (T5).fz 7 (by omega)
            have z8 := (T5).fz 8 (by omega)
            have z9 := (T5).fz 9 (by omega)
            have z10 := (T5).fz 10 (by omega)
            have STA := STA0
            have PP := hid hPP
            clear hor hcs hz0 T5 hPP STA0
            go_wp2_with (first | (go_at_call 45; refine (STA.out _ (by (repeat (first | with_reducible exact Below.rf _ | with_reducible exact World.below_ext _ _ | with_reducible refine Below.ex ?_ _ | with_reducible refine Below.al ?_ _ | with_reducible refine Below.setCell ?_ (by simp) _ | with_reducible refine Below.drew ?_)))).mono ?_; rintro e w' ⟨rfl, z, rfl⟩))
            refine wp_nm fun w6 hw6 => ?_
            have kb : KeptBut (d + 1) w5 w6 := by
              rw [hw6]
              refine KeptBut.ex ?_ z
              refine KeptBut.set ?_ (Or.inl (by rfl)) _
              refine KeptBut.set ?_ (Or.inl (by rfl)) _
              refine KeptBut.set ?_ (Or.inl (by rfl)) _
              refine KeptBut.set ?_ (Or.inl (by rfl)) _
              refine KeptBut.set ?_ (Or.inl (by rfl)) _
              refine KeptBut.set ?_ (Or.inl (by rfl)) _
              refine KeptBut.set ?_ (Or.inl (by rfl)) _
              refine KeptBut.set ?_ (Or.inl (by rfl)) _
              refine KeptBut.set ?_ (Or.inl (by rfl)) _
              refine KeptBut.set ?_ (Or.inl (by rfl)) _
              refine KeptBut.set ?_ (Or.inl (by rfl)) _
              exact KeptBut.refl _ _
            have T6 : Blk w6 (d + 1) 11 (fun j => .int .i64 (st j)) := by
              rw [hw6]
              refine (Blk.below (((((((((((HT5.out.set 0 _ (by omega)).set 1 _ (by omega)).set 2 _ (by omega)).set 3 _ (by omega)).set 4 _ (by omega)).set 5 _ (by omega)).set 6 _ (by omega)).set 7 _ (by omega)).set 8 _ (by omega)).set 9 _ (by omega)).set 10 _ (by omega)) (World.below_ext _ z)).congr (fun j hj => ?_)
              have := HZ0.out j hj
              rcases (by omega : j = 0 ∨ j = 1 ∨ j = 2 ∨ j = 3 ∨ j = 4 ∨ j = 5 ∨ j = 6 ∨ j = 7 ∨ j = 8 ∨ j = 9 ∨ j = 10) with rfl | rfl | rfl | rfl | rfl | rfl | rfl | rfl | rfl | rfl | rfl <;> simp [upd, this]
            clear hw6 t0 t1 t2 t3 t4 t5 t6 t7 t8 t9 t10 z0 z1 z2 z3 z4 z5 z6 z7 z8 z9 z10 STA HZ0
            have P6 := HP5.out.kept1 kb ht5 (by omega) (by omega)
            have STA := hid (fun (w' : World) (h : Below w6.heap.size w6 w') => stats_any N X'.S n5 fb M.t l5 w' ((PP.out.keptL (KeptL.of_but (lab := l5) (A := fun x => x = 1) kb ht5) (fun x hx => by omega)).below h))
            rw [HST.out] at STA
            have d2' : w6.cell? ⟨d, 2, none⟩ = some (.pointer (some ⟨N.p, 0, none⟩)) := (World.cell?_of_block (kb.block d hdl (by omega))).trans d2
            have hdl6 := P6.dk.b.lt
            have htl6 := T6.lt
            have t0 : (w6).cell? ⟨d + 1, 0, none⟩ = some (.int .i64 ((st) 0)) := (T6).is 0 (by omega)
            have t1 : (w6).cell? ⟨d + 1, 1, none⟩ = some (.int .i64 ((st) 1)) := (T6).is 1 (by omega)
            have t2 : (w6).cell? ⟨d + 1, 2, none⟩ = some (.int .i64 ((st) 2)) := (T6).is 2 (by omega)
            have t3 : (w6).cell? ⟨d + 1, 3, none⟩ = some (.int .i64 ((st) 3)) := (T6).is 3 (by omega)
            have t4 : (w6).cell? ⟨d + 1, 4, none⟩ = some (.int .i64 ((st) 4)) := (T6).is 4 (by omega)
            have t5 : (w6).cell? ⟨d + 1, 5, none⟩ = some (.int .i64 ((st) 5)) := (T6).is 5 (by omega)
            have t6 : (w6).cell? ⟨d + 1, 6, none⟩ = some (.int .i64 ((st) 6)) := (T6).is 6 (by omega)
            have t7 : (w6).cell? ⟨d + 1, 7, none⟩ = some (.int .i64 ((st) 7)) := (T6).is 7 (by omega)
            have t8 : (w6).cell? ⟨d + 1, 8, none⟩ = some (.int .i64 ((st) 8)) := (T6).is 8 (by omega)
            have t9 : (w6).cell? ⟨d + 1, 9, none⟩ = some (.int .i64 ((st) 9)) := (T6).is 9 (by omega)
            have t10 : (w6).cell? ⟨d + 1, 10, none⟩ = some (.int .i64 ((st) 10)) := (T6).is 10 (by omega)
            have HP6 := hid P6
            have HT6 := hid T6
            clear kb P6 T6 d2 d3 HP5 HT5 hdl htl x0 hxl
            first | with_reducible refine wp_region_ext2 (by kernel_rfl) (by kernel_rfl) ?_ | refine wp_region_ext (by kernel_rfl) (by kernel_rfl) ?_
            repeat (go_big_quiet_step ((go_at_call 45; exact Calls.ext_of (STA.out _ (by (repeat (first | with_reducible exact Below.rf _ | with_reducible exact World.below_ext _ _ | with_reducible refine Below.ex ?_ _ | with_reducible refine Below.al ?_ _ | with_reducible refine Below.setCell ?_ (by simp) _ | with_reducible refine Below.drew ?_)))))))
            refine wpQuiet_nil ?_
            rintro _ ⟨z, rfl⟩
            go_wp2
            go_roundw
            case rel =>
              refine ⟨i + 1, l5, m5, D', by go_num, by omega, ht5, HP6.out.below (by (repeat (first | with_reducible exact Below.rf _ | with_reducible exact World.below_ext _ _ | with_reducible refine Below.ex ?_ _ | with_reducible refine Below.al ?_ _ | with_reducible refine Below.setCell ?_ (by simp) _ | with_reducible refine Below.drew ?_))), ?_⟩
              rw [HWD.out]
              exact HT6.out.below (by (repeat (first | with_reducible exact Below.rf _ | with_reducible exact World.below_ext _ _ | with_reducible refine Below.ex ?_ _ | with_reducible refine Below.al ?_ _ | with_reducible refine Below.setCell ?_ (by simp) _ | with_reducible refine Below.drew ?_)))
            case measure => (simp [intOf] <;> omega)
          · have hw0 : wantOf D = st := by
              rcases hor with ⟨h1, h2⟩ | h
              · exact absurd ⟨h1, by rw [h2]⟩ hcs
              · exact h
            rw [hw0] at T5 HT5
            have t0 : (w5).cell? ⟨d + 1, 0, none⟩ = some (.int .i64 ((st) 0)) := (T5).is 0 (by omega)
            have t1 : (w5).cell? ⟨d + 1, 1, none⟩ = some (.int .i64 ((st) 1)) := (T5).is 1 (by omega)
            have t2 : (w5).cell? ⟨d + 1, 2, none⟩ = some (.int .i64 ((st) 2)) := (T5).is 2 (by omega)
            have t3 : (w5).cell? ⟨d + 1, 3, none⟩ = some (.int .i64 ((st) 3)) := (T5).is 3 (by omega)
            have t4 : (w5).cell? ⟨d + 1, 4, none⟩ = some (.int .i64 ((st) 4)) := (T5).is 4 (by omega)
            have t5 : (w5).cell? ⟨d + 1, 5, none⟩ = some (.int .i64 ((st) 5)) := (T5).is 5 (by omega)
            have t6 : (w5).cell? ⟨d + 1, 6, none⟩ = some (.int .i64 ((st) 6)) := (T5).is 6 (by omega)
            have t7 : (w5).cell? ⟨d + 1, 7, none⟩ = some (.int .i64 ((st) 7)) := (T5).is 7 (by omega)
            have t8 : (w5).cell? ⟨d + 1, 8, none⟩ = some (.int .i64 ((st) 8)) := (T5).is 8 (by omega)
            have t9 : (w5).cell? ⟨d + 1, 9, none⟩ = some (.int .i64 ((st) 9)) := (T5).is 9 (by omega)
            have t10 : (w5).cell? ⟨d + 1, 10, none⟩ = some (.int .i64 ((st) 10)) := (T5).is 10 (by omega)
            have STA := STA0
            clear hor hw0 T5 hPP STA0
            by_cases hK : (o i).K = 0
            · have dK : ((o i).K == 0) = true := by simp [hK]
              have ds : (st 0 == 0) = false := by simp; exact fun h => hcs ⟨hK, h⟩
              clear hcs
              go_wp2_with (first | (go_at_call 45; refine (STA.out _ (by (repeat (first | with_reducible exact Below.rf _ | with_reducible exact World.below_ext _ _ | with_reducible refine Below.ex ?_ _ | with_reducible refine Below.al ?_ _ | with_reducible refine Below.setCell ?_ (by simp) _ | with_reducible refine Below.drew ?_)))).mono ?_; rintro e w' ⟨rfl, z, rfl⟩))
              first | with_reducible refine wp_region_ext2 (by kernel_rfl) (by kernel_rfl) ?_ | refine wp_region_ext (by kernel_rfl) (by kernel_rfl) ?_
              repeat (go_big_quiet_step ((go_at_call 45; exact Calls.ext_of (STA.out _ (by (repeat (first | with_reducible exact Below.rf _ | with_reducible exact World.below_ext _ _ | with_reducible refine Below.ex ?_ _ | with_reducible refine Below.al ?_ _ | with_reducible refine Below.setCell ?_ (by simp) _ | with_reducible refine Below.drew ?_)))))))
              refine wpQuiet_nil ?_
              rintro _ ⟨z, rfl⟩
              go_wp2
              go_roundw
              case rel =>
                refine ⟨i + 1, l5, m5, D', by go_num, by omega, ht5, HP5.out.below (by (repeat (first | with_reducible exact Below.rf _ | with_reducible exact World.below_ext _ _ | with_reducible refine Below.ex ?_ _ | with_reducible refine Below.al ?_ _ | with_reducible refine Below.setCell ?_ (by simp) _ | with_reducible refine Below.drew ?_))), ?_⟩
                rw [HWD.out]
                exact HT5.out.below (by (repeat (first | with_reducible exact Below.rf _ | with_reducible exact World.below_ext _ _ | with_reducible refine Below.ex ?_ _ | with_reducible refine Below.al ?_ _ | with_reducible refine Below.setCell ?_ (by simp) _ | with_reducible refine Below.drew ?_)))
              case measure => (simp [intOf] <;> omega)
            · have dK : ((o i).K == 0) = false := by simp [hK]
              clear hcs
              go_wp2
              first | with_reducible refine wp_region_ext2 (by kernel_rfl) (by kernel_rfl) ?_ | refine wp_region_ext (by kernel_rfl) (by kernel_rfl) ?_
              repeat (go_big_quiet_step ((go_at_call 45; exact Calls.ext_of (STA.out _ (by (repeat (first | with_reducible exact Below.rf _ | with_reducible exact World.below_ext _ _ | with_reducible refine Below.ex ?_ _ | with_reducible refine Below.al ?_ _ | with_reducible refine Below.setCell ?_ (by simp) _ | with_reducible refine Below.drew ?_)))))))
              refine wpQuiet_nil ?_
              rintro _ ⟨z, rfl⟩
              go_wp2
              go_roundw
              case rel =>
                refine ⟨i + 1, l5, m5, D', by go_num, by omega, ht5, HP5.out.below (by (repeat (first | with_reducible exact Below.rf _ | with_reducible exact World.below_ext _ _ | with_reducible refine Below.ex ?_ _ | with_reducible refine Below.al ?_ _ | with_reducible refine Below.setCell ?_ (by simp) _ | with_reducible refine Below.drew ?_))), ?_⟩
                rw [HWD.out]
                exact HT5.out.below (by (repeat (first | with_reducible exact Below.rf _ | with_reducible exact World.below_ext _ _ | with_reducible refine Below.ex ?_ _ | with_reducible refine Below.al ?_ _ | with_reducible refine Below.setCell ?_ (by simp) _ | with_reducible refine Below.drew ?_)))
              case measure => (simp [intOf] <;> omega)
      · rw [hask] at d3
        have dK : ((o i).K == 0) = false := by simp [hK0]
        have hw := P5.dk.wd
        rw [hX'] at hw
        obtain ⟨fb, M, N, n5, f1, f2, f3, hF, hT2, hPP⟩ := hw
        rw [f3] at d2
        have hwb := (HWB.out X hX).st
        have hwd0 : wantOf D = X.S.st := by unfold wantOf; rw [hX]
        have hwd : wantOf D' = S.st := by unfold wantOf; rw [hX']
        rw [hwd0] at T5 HT5
        obtain ⟨s0, hs0⟩ : ∃ y, X.S.st = y := ⟨_, rfl⟩
        rw [hs0] at T5 HT5 hwb hst
        have d9 : w5.cell? ⟨d, 9, none⟩ = some (.int .i64 ((o i).E)) := by
          rw [P5.dk.b.is 9 (by omega)]
          show some (Value.int .i64 D'.q.m) = _
          rw [hq]
          rfl
        have d10 : w5.cell? ⟨d, 10, none⟩ = some (.int .u8 D'.pl.c) := P5.dk.b.is 10 (by omega)
        have d14 : w5.cell? ⟨d, 14, none⟩ = some (.int .i64 (D'.pl.x)) := P5.dk.b.is 14 (by omega)
        have d12 : w5.cell? ⟨d, 12, none⟩ = some m5.pa := P5.dk.b.is 12 (by omega)
        obtain ⟨po, pc, hpa, -⟩ := P5.dk.pp.ex
        rw [hpa] at d12
        have hplc := hpl.c
        have hplx := hpl.x
        have hpln := hpl.ln
        have hpno : D'.pl.c ≠ 0 → D'.pl.path.length = 0 := fun h => by rw [(hpl.no h).1]; rfl
        have hqm : (rqOf (o i)).m = (o i).E := rfl
        rw [hqm] at hplx
        generalize D'.pl.c = c at *
        generalize D'.pl.x = x at *
        generalize D'.pl.path.length = len at *
        generalize (o i).E = E at *
        have HWD := hid hwd
        have HST := hid hst
        have PP := hid hPP
        have HNO := hid hpno
        have b0 := hwb 0 (by omega)
        have b1 := hwb (1 + c) (by omega)
        have b9 := hwb 9 (by omega)
        have b10 := hwb 10 (by omega)
        have t0 : w5.cell? ⟨d + 1, 0, none⟩ = some (.int .i64 (s0 0)) := T5.is 0 (by omega)
        have tc : w5.cell? ⟨d + 1, 1 + c, none⟩ = some (.int .i64 (s0 (1 + c))) := T5.is (1 + c) (by omega)
        have z0 := T5.fz 0 (by omega)
        have zc := T5.fz (1 + c) (by omega)
        clear hX hX' hfx hpl hq hms hst hwd hwd0 hs0 hpa hqm hPP hF hT2 f1 f2 f3 P5 T5 hwb hpno hask hK0
        go_wp2
        refine wp_nm fun w6 hw6 => ?_
        have k6 : KeptBut (d + 1) w5 w6 := by
          rw [hw6]
          refine KeptBut.set ?_ (Or.inl (by rfl)) _
          refine KeptBut.set ?_ (Or.inl (by rfl)) _
          exact KeptBut.refl _ _
        have T6 : Blk w6 (d + 1) 11 (upd (upd (fun j => .int .i64 (s0 j)) 0 (.int .i64 (s0 0 + 1))) (1 + c) (.int .i64 (s0 (1 + c) + 1))) := by
          rw [hw6]
          exact (HT5.out.set 0 _ (by omega)).set (1 + c) _ (by omega)
        clear hw6 t0 tc z0 zc
        have t9 : w6.cell? ⟨d + 1, 9, none⟩ = some (.int .i64 (s0 9)) := by rw [T6.is 9 (by omega), upd_ne _ _ (by omega), upd_ne _ _ (by omega)]
        have z9 := T6.fz 9 (by omega)
        have d14' : w6.cell? ⟨d, 14, none⟩ = some (.int .i64 (x)) := (World.cell?_of_block (k6.block d hdl (by omega))).trans d14
        have l6 := T6.lt
        have hd6 : d < w6.heap.size := Nat.lt_of_lt_of_le hdl k6.size
        have HT6 := hid T6
        have HK6 := hid k6
        clear T6 k6
        first | with_reducible refine wp_region_tail_ext2 8 (by kernel_rfl) (by kernel_rfl) ?_ | refine wp_region_tail_ext 8 (by kernel_rfl) (by kernel_rfl) ?_
        simp only [List.take_succ_cons, List.take_zero, List.drop_succ_cons, List.drop_zero]
        repeat (go_big_quiet_step (fail))
        refine wpQuiet_nil ?_
        rintro _ ⟨z, rfl⟩
        go_wp2
        refine wp_nm fun w7 hw7 => ?_
        have k7 : KeptBut (d + 1) w5 w7 := by
          rw [hw7]
          refine HK6.out.trans ?_
          refine KeptBut.ex ?_ _
          refine KeptBut.set ?_ (Or.inl (by rfl)) _
          exact KeptBut.refl _ _
        have T7 : Blk w7 (d + 1) 11 (upd (upd (upd (fun j => .int .i64 (s0 j)) 0 (.int .i64 (s0 0 + 1))) (1 + c) (.int .i64 (s0 (1 + c) + 1))) 9 (.int .i64 (s0 9 + x))) := by
          rw [hw7]
          exact (HT6.out.set 9 _ (by omega)).below (World.below_ext _ _)
        clear hw7 t9 z9 d14' l6 hd6 HT6 HK6
        have t10 : w7.cell? ⟨d + 1, 10, none⟩ = some (.int .i64 (s0 10)) := by rw [T7.is 10 (by omega), upd_ne _ _ (by omega), upd_ne _ _ (by omega), upd_ne _ _ (by omega)]
        have z10 := T7.fz 10 (by omega)
        have d12' : w7.cell? ⟨d, 12, none⟩ = some (.slice po len pc) := (World.cell?_of_block (k7.block d hdl (by omega))).trans d12
        have l7 := T7.lt
        have hd7 : d < w7.heap.size := Nat.lt_of_lt_of_le hdl k7.size
        obtain ⟨mx, hmx⟩ : ∃ y, max (s0 10) ((len : Int) - 1) = y := ⟨_, rfl⟩
        have hmax := fun (w : World) (ty : TypeId) => run_max w (s0 10) ((len : Int) - 1) mx hmx ty
        have HMX := hid hmx
        have HT7 := hid T7
        have HK7 := hid k7
        clear T7 k7 hmx
        first | with_reducible refine wp_region_tail_ext2 10 (by kernel_rfl) (by kernel_rfl) ?_ | refine wp_region_tail_ext 10 (by kernel_rfl) (by kernel_rfl) ?_
        simp only [List.take_succ_cons, List.take_zero, List.drop_succ_cons, List.drop_zero]
        repeat (go_big_quiet_step (fail))
        refine wpQuiet_nil ?_
        rintro _ ⟨z, rfl⟩
        go_wp2
        refine wp_nm fun w8 hw8 => ?_
        have k8 : KeptBut (d + 1) w5 w8 := by
          rw [hw8]
          refine HK7.out.trans ?_
          refine KeptBut.ex ?_ _
          refine KeptBut.set ?_ (Or.inl (by rfl)) _
          exact KeptBut.refl _ _
        have T8 : Blk w8 (d + 1) 11 (fun j => .int .i64 (noteSt s0 c x len j)) := by
          rw [hw8]
          refine ((HT7.out.set 10 (.int .i64 (mx)) (by omega)).below (World.below_ext _ _)).congr (fun j hj => ?_)
          unfold noteSt
          by_cases j10 : j = 10
          · subst j10
            rw [upd_at, if_neg (by omega), if_neg (by omega), if_neg (by omega), if_pos rfl, ← HMX.out]
            by_cases hc0 : c = 0
            · rw [if_pos hc0]
            · rw [if_neg hc0, HNO.out hc0]
              congr 1
              omega
          · rw [upd_ne _ _ j10]
            by_cases j9 : j = 9
            · subst j9
              rw [upd_at, if_neg (by omega), if_neg (by omega), if_pos rfl]
            · rw [upd_ne _ _ j9]
              by_cases jc : j = 1 + c
              · subst jc
                rw [upd_at, if_neg (by omega), if_pos rfl]
              · rw [upd_ne _ _ jc]
                by_cases j0 : j = 0
                · subst j0
                  rw [upd_at, if_pos rfl]
                · rw [upd_ne _ _ j0, if_neg j0, if_neg jc, if_neg j9, if_neg j10]
        rw [← HST.out] at T8
        clear hw8 t10 z10 d12' l7 hd7 HT7 HK7 hmax HMX
        have P8 := HP5.out.kept1 k8 ht5 (by omega) (by omega)
        have STA := hid (fun (w' : World) (h : Below w8.heap.size w8 w') => stats_any N S n5 fb M.t l5 w' ((PP.out.keptL (KeptL.of_but (lab := l5) (A := fun x => x = 1) k8 ht5) (fun x hx => by omega)).below h))
        have d2' : w8.cell? ⟨d, 2, none⟩ = some (.pointer (some ⟨N.p, 0, none⟩)) := (World.cell?_of_block (k8.block d hdl (by omega))).trans d2
        have d9' : w8.cell? ⟨d, 9, none⟩ = some (.int .i64 (E)) := (World.cell?_of_block (k8.block d hdl (by omega))).trans d9
        have d14' : w8.cell? ⟨d, 14, none⟩ = some (.int .i64 (x)) := (World.cell?_of_block (k8.block d hdl (by omega))).trans d14
        have hdl8 := P8.dk.b.lt
        have htl8 := T8.lt
        obtain ⟨mE, hmE⟩ : ∃ y, max E 0 = y := ⟨_, rfl⟩
        have hmax2 := fun (w : World) (ty : TypeId) => run_max w E 0 mE hmE ty
        rw [hmE] at hplx
        have dx1 : decide (mE < x) = false := by simp; omega
        have dx0 : decide (x < 0) = false := by simp; omega
        obtain ⟨st, hst⟩ : ∃ y, S.st = y := ⟨_, rfl⟩
        rw [hst] at T8 STA HWD
        have h85 := fun w => eq85 w st
        have t0 : (w8).cell? ⟨d + 1, 0, none⟩ = some (.int .i64 ((st) 0)) := (T8).is 0 (by omega)
        have t1 : (w8).cell? ⟨d + 1, 1, none⟩ = some (.int .i64 ((st) 1)) := (T8).is 1 (by omega)
        have t2 : (w8).cell? ⟨d + 1, 2, none⟩ = some (.int .i64 ((st) 2)) := (T8).is 2 (by omega)
        have t3 : (w8).cell? ⟨d + 1, 3, none⟩ = some (.int .i64 ((st) 3)) := (T8).is 3 (by omega)
        have t4 : (w8).cell? ⟨d + 1, 4, none⟩ = some (.int .i64 ((st) 4)) := (T8).is 4 (by omega)
        have t5 : (w8).cell? ⟨d + 1, 5, none⟩ = some (.int .i64 ((st) 5)) := (T8).is 5 (by omega)
        have t6 : (w8).cell? ⟨d + 1, 6, none⟩ = some (.int .i64 ((st) 6)) := (T8).is 6 (by omega)
        have t7 : (w8).cell? ⟨d + 1, 7, none⟩ = some (.int .i64 ((st) 7)) := (T8).is 7 (by omega)
        have t8 : (w8).cell? ⟨d + 1, 8, none⟩ = some (.int .i64 ((st) 8)) := (T8).is 8 (by omega)
        have t9 : (w8).cell? ⟨d + 1, 9, none⟩ = some (.int .i64 ((st) 9)) := (T8).is 9 (by omega)
        have t10 : (w8).cell? ⟨d + 1, 10, none⟩ = some (.int .i64 ((st) 10)) := (T8).is 10 (by omega)
        have HP8 := hid P8
        have HT8 := hid T8
        clear k8 P8 T8 d2 d3 d9 d10 d12 d14 HP5 HT5 hdl htl x0 hxl hmE hst HST HNO PP b0 b1 b9 b10
        first | with_reducible refine wp_region_ext2 (by kernel_rfl) (by kernel_rfl) ?_ | refine wp_region_ext (by kernel_rfl) (by kernel_rfl) ?_
        repeat (go_big_quiet_step (fail))
        refine wpQuiet_nil ?_
        rintro _ ⟨z, rfl⟩
        go_wp2
        first | with_reducible refine wp_region_ext2 (by kernel_rfl) (by kernel_rfl) ?_ | refine wp_region_ext (by kernel_rfl) (by kernel_rfl) ?_
        repeat (go_big_quiet_step ((go_at_call 45; exact Calls.ext_of (STA.out _ (by (repeat (first | with_reducible exact Below.rf _ | with_reducible exact World.below_ext _ _ | with_reducible refine Below.ex ?_ _ | with_reducible refine Below.al ?_ _ | with_reducible refine Below.setCell ?_ (by simp) _ | with_reducible refine Below.drew ?_)))))))
        refine wpQuiet_nil ?_
        rintro _ ⟨z, rfl⟩
        go_wp2
        go_roundw
        case rel =>
          refine ⟨i + 1, l5, m5, D', by go_num, by omega, ht5, HP8.out.below (by (repeat (first | with_reducible exact Below.rf _ | with_reducible exact World.below_ext _ _ | with_reducible refine Below.ex ?_ _ | with_reducible refine Below.al ?_ _ | with_reducible refine Below.setCell ?_ (by simp) _ | with_reducible refine Below.drew ?_))), ?_⟩
          rw [HWD.out]
          exact HT8.out.below (by (repeat (first | with_reducible exact Below.rf _ | with_reducible exact World.below_ext _ _ | with_reducible refine Below.ex ?_ _ | with_reducible refine Below.al ?_ _ | with_reducible refine Below.setCell ?_ (by simp) _ | with_reducible refine Below.drew ?_)))
        case measure => (simp [intOf] <;> omega)
    · have di : decide ((i : Int) < (n : Int)) = false := by simp; omega
      have din : decide (i < n) = false := by simp; omega
      have HP := hid hP
      clear hP hT
      go_wp2
      go_ret
      exact ⟨rfl, HP.out.bl⟩
end Go.Proofs.Qxb6500716a
