/-
  intrude: the walk.
-/
import Derived.Test.Qxb6500716aIk
import Derived.Test.Qxb6500716aVf
import Derived.Test.Qxb6500716aTi
import Derived.Test.Qxb6500716aLo
import Derived.Test.Qxb6500716aTw
namespace Go.Proofs.Qxb6500716a
open Go.RowKit Go.Maps
set_option linter.unusedSimpArgs false
set_option linter.unusedVariables false
set_option maxRecDepth 20000
set_option maxHeartbeats 4000000
/-- What intrude reads of the desk. -/
structure D42 (w : World) (d fb : Nat) (q : Rq) (gv pv dv : Value) (c t x : Int) : Prop where
  c0 : w.cell? ⟨d, 0, none⟩ = some (.pointer (some ⟨fb, 0, none⟩))
  c4 : w.cell? ⟨d, 4, none⟩ = some (.int .i64 (q.r))
  c5 : w.cell? ⟨d, 5, none⟩ = some (.int .i64 (q.s))
  c6 : w.cell? ⟨d, 6, none⟩ = some (.int .i64 (q.t))
  c7 : w.cell? ⟨d, 7, none⟩ = some gv
  c8 : w.cell? ⟨d, 8, none⟩ = some (.int .i64 (q.h))
  c9 : w.cell? ⟨d, 9, none⟩ = some (.int .i64 (q.m))
  c10 : w.cell? ⟨d, 10, none⟩ = some (.int .u8 c)
  c11 : w.cell? ⟨d, 11, none⟩ = some (.int .i64 (t))
  c12 : w.cell? ⟨d, 12, none⟩ = some pv
  c13 : w.cell? ⟨d, 13, none⟩ = some dv
  c14 : w.cell? ⟨d, 14, none⟩ = some (.int .i64 (x))
  lt : d < w.heap.size
theorem D42.below {w w' : World} {d fb : Nat} {q : Rq} {gv pv dv : Value} {c t x : Int} (h : D42 w d fb q gv pv dv c t x) (hb : Below w.heap.size w w') : D42 w' d fb q gv pv dv c t x := by
  have hc : ∀ i, w'.cell? ⟨d, i, none⟩ = w.cell? ⟨d, i, none⟩ := fun i => World.cell?_of_block (hb.block d h.lt)
  exact ⟨(hc _).trans h.c0, (hc _).trans h.c4, (hc _).trans h.c5, (hc _).trans h.c6, (hc _).trans h.c7, (hc _).trans h.c8, (hc _).trans h.c9, (hc _).trans h.c10, (hc _).trans h.c11, (hc _).trans h.c12, (hc _).trans h.c13, (hc _).trans h.c14, Nat.lt_of_lt_of_le h.lt hb.size⟩
set_option maxHeartbeats 8000000 in
theorem intrude_any (d fb : Nat) (M : TM) (F : FS) (T : TS) (lab : Nat → Nat) (q : Rq) (gv pv dv : Value) (c t x : Int) (path : List Int) (wh : Nat) (w : World) (hgv : ∃ go gn gc, gv = .slice go gn gc) (hD : D42 w d fb q gv pv dv c t x) (hF : FAt w lab fb F) (hT : TAt w lab M T) (hp : Ints w lab pv path) (hpl : 1 ≤ path.length ∧ path.length ≤ 1000) (hr : 0 ≤ q.r ∧ q.r < (F.bays.length : Int)) (hs : 0 ≤ q.s ∧ q.s < (F.n : Int)) (hqt : 0 ≤ q.t ∧ q.t ≤ 2000000000) (ht : 0 ≤ t ∧ t ≤ 2000000000) (hh : T.held ≤ T.cap) (hwh : wh ≤ 4000000000) (hnb : F.near q.s.toNat ≠ []) :
    Calls Try.prog 42 #[.pointer (some ⟨d, 0, none⟩), .pointer (some ⟨M.t, 0, none⟩), .int .i64 (wh)] w fun e w' => ∃ v, e = .returned v ∧ OV w w' v T 4 := by
  obtain ⟨go, gn, gc, hgv⟩ := hgv
  subst hgv
  obtain ⟨po, pc, hpv, hpcc⟩ := hp.ex
  have hpi := hp.i64
  have HP := hid hp
  have HF := hid hF
  have HT := hid hT
  have HPI := hid hpi
  obtain ⟨pn, hpn⟩ : ∃ y, path.length = y := ⟨_, rfl⟩
  rw [hpn] at hpl hpv hpcc
  have HPN := hid hpn
  subst hpv
  have hpl1 := hpl.1
  have hpl2 := hpl.2
  have hnbl := hF.ok.nb
  have hfn := hF.ok.n
  obtain ⟨nb, hnb2⟩ : ∃ y, F.bays.length = y := ⟨_, rfl⟩
  have RB : Hid (∀ w' : World, Below w.heap.size w w' → Calls Try.prog 23 #[.pointer (some ⟨fb, 0, none⟩)] w' fun e w'' => e = .returned (.int .i64 (nb)) ∧ w'' = w') := fun w' h => by
    rw [← hnb2]
    exact robots_any fb F lab w' (hF.below h)
  have HNB := hid hnb
  have HHH := hid hh
  have HDD := hid hD
  rw [hnb2] at hr hnbl
  clear hpn hp hF hT hpi hnb hh hnb2
  have d0 : (w).cell? ⟨d, 0, none⟩ = some (.pointer (some ⟨fb, 0, none⟩)) := (HDD.out).c0
  have d4 : (w).cell? ⟨d, 4, none⟩ = some (.int .i64 (q.r)) := (HDD.out).c4
  have d5 : (w).cell? ⟨d, 5, none⟩ = some (.int .i64 (q.s)) := (HDD.out).c5
  have d6 : (w).cell? ⟨d, 6, none⟩ = some (.int .i64 (q.t)) := (HDD.out).c6
  have d7 : (w).cell? ⟨d, 7, none⟩ = some (.slice go gn gc) := (HDD.out).c7
  have d8 : (w).cell? ⟨d, 8, none⟩ = some (.int .i64 (q.h)) := (HDD.out).c8
  have d9 : (w).cell? ⟨d, 9, none⟩ = some (.int .i64 (q.m)) := (HDD.out).c9
  have d10 : (w).cell? ⟨d, 10, none⟩ = some (.int .u8 c) := (HDD.out).c10
  have d11 : (w).cell? ⟨d, 11, none⟩ = some (.int .i64 (t)) := (HDD.out).c11
  have d12 : (w).cell? ⟨d, 12, none⟩ = some (.slice po pn pc) := (HDD.out).c12
  have d13 : (w).cell? ⟨d, 13, none⟩ = some dv := (HDD.out).c13
  have d14 : (w).cell? ⟨d, 14, none⟩ = some (.int .i64 (x)) := (HDD.out).c14
  have hdl := (HDD.out).lt
  go_enter Try.func42, Try.ntmps42
  go_wp2
  go_region_held3 (fun w' => w'.cell? ⟨d, 4, none⟩ = some (.int .i64 (q.r)) ∧ w'.cell? ⟨d, 5, none⟩ = some (.int .i64 (q.s)) ∧ w'.cell? ⟨d, 6, none⟩ = some (.int .i64 (q.t)) ∧ w'.cell? ⟨d, 7, none⟩ = some (.slice go gn gc) ∧ w'.cell? ⟨d, 8, none⟩ = some (.int .i64 (q.h)) ∧ w'.cell? ⟨d, 9, none⟩ = some (.int .i64 (q.m)) ∧ w'.cell? ⟨d, 12, none⟩ = some (.slice po pn pc)) (simp [go_sem, ↓IntWalk.iteOmega, *]) (fail)
  refine x_nm fun w1 hw1 => ?_
  have b1 : Below w.heap.size w w1 := by rw [hw1]; (repeat (first | with_reducible exact Below.rf _ | with_reducible exact World.below_ext _ _ | with_reducible refine Below.ex ?_ _ | with_reducible refine Below.al ?_ _ | with_reducible refine Below.setCell ?_ (by simp) _ | with_reducible refine Below.drew ?_))
  have R1 : Blk w1 w.heap.size 6 (rq4 q (.slice go gn gc)) := by
    rw [hw1]
    refine ⟨by (simp <;> omega), fun i hi => ?_, fun i hi => by simp [go_sem, ↓IntWalk.iteOmega]⟩
    rcases (by omega : i = 0 ∨ i = 1 ∨ i = 2 ∨ i = 3 ∨ i = 4 ∨ i = 5) with rfl | rfl | rfl | rfl | rfl | rfl <;> simp [go_sem, ↓IntWalk.iteOmega, rq4]
  clear hw1
  have HR1 := hid R1
  have HB1 := hid b1
  obtain ⟨rb, hrb⟩ : ∃ y, w.heap.size = y := ⟨_, rfl⟩
  rw [hrb] at R1 HR1 ⊢
  have r0 : w1.cell? ⟨rb, 0, none⟩ = some (.int .i64 (q.r)) := R1.is 0 (by omega)
  have hrl := R1.lt
  have f0 := (World.cell?_of_block (b1.block d hdl)).trans d0
  have hd1 := Nat.lt_of_lt_of_le hdl b1.size
  have RB1 : Hid (∀ w' : World, Below w1.heap.size w1 w' → Calls Try.prog 23 #[.pointer (some ⟨fb, 0, none⟩)] w' fun e w'' => e = .returned (.int .i64 (nb)) ∧ w'' = w') := fun w' h => RB.out w' (HB1.out.trans (h.mono HB1.out.size))
  obtain ⟨mx, hmx, hmx1⟩ : ∃ y : Int, max ((nb : Int) - 1) 1 = y ∧ 1 ≤ y ∧ y ≤ 6 := ⟨_, rfl, by omega⟩
  clear d0 d4 d5 d6 d7 d8 d9 d10 d11 d12 d13 d14 R1 b1
  go_wp2
  first | with_reducible refine wp_region_ext2 (by kernel_rfl) (by kernel_rfl) ?_ | refine wp_region_ext (by kernel_rfl) (by kernel_rfl) ?_
  repeat (go_big_quiet_step ((go_at_call 23; exact Calls.ext_of_same (RB1.out _ (by (repeat (first | with_reducible exact Below.rf _ | with_reducible exact World.below_ext _ _ | with_reducible refine Below.ex ?_ _ | with_reducible refine Below.al ?_ _ | with_reducible refine Below.setCell ?_ (by simp) _ | with_reducible refine Below.drew ?_)))))))
  refine wpQuiet_nil ?_
  rintro w2 ⟨z, hw2⟩
  have HB2 : Hid (Below w.heap.size w w2) := HB1.out.trans (Below.mono (by rw [hw2]; exact World.below_ext _ _) HB1.out.size)
  have HR2 : Hid (Blk w2 rb 6 (rq4 q (.slice go gn gc))) := HR1.out.below (by rw [hw2]; exact World.below_ext _ _)
  clear hw2 r0 hrl f0 hd1 RB1 HR1 HB1 RB hmx hmx1
  generalize hmx2 : (if (nb : Int) - 1 < 1 then (1 : Int) else (nb : Int) - 1) = mx2
  generalize hot : (wrap64 (q.r + 1 + (wh : Int) % mx2)).tmod (nb : Int) = ot
  have hob : -6 ≤ ot ∧ ot ≤ 6 := by
    rw [← hot]
    have h1 := Int.tmod_lt_of_pos (wrap64 (q.r + 1 + (wh : Int) % mx2)) (show (0 : Int) < (nb : Int) by omega)
    have h2 := Int.lt_tmod_of_pos (wrap64 (q.r + 1 + (wh : Int) % mx2)) (show (0 : Int) < (nb : Int) by omega)
    omega
  clear hot hmx2 mx
  obtain ⟨ix0, hix, hixl⟩ : ∃ y : Nat, (wh : Int).tmod (pn : Int) = y ∧ y < pn := ⟨wh % pn, by rw [Int.tmod_eq_emod_of_nonneg (by omega)]; simp, Nat.mod_lt _ (by omega)⟩
  have dp0 : ((pn : Int) == 0) = false := by simp; omega
  obtain ⟨bk, ba, hpo, hbk, -⟩ := ints_at HP.out (Below.rf _) (i := 0) (by rw [HPN.out]; omega)
  subst hpo
  have PC : Hid (∀ w' j, Below w.heap.size w w' → j < pn → w'.cell? ⟨bk, ba + j, none⟩ = some (.int .i64 (path.getD j 0))) := fun w' j h hj => by
    obtain ⟨b', a', e1, -, e2⟩ := ints_at HP.out h (i := j) (by rw [HPN.out]; exact hj)
    simp only [Option.some.injEq, Addr.mk.injEq, and_true] at e1
    rw [e1.1, e1.2]
    exact e2
  have PI : Hid (∀ j, j < pn → I64 (path.getD j 0)) := fun j hj => by
    have hjl : j < path.length := by rw [HPN.out]; exact hj
    rw [List.getD_eq_getElem?_getD, List.getElem?_eq_getElem hjl]
    exact HPI.out _ (List.getElem_mem hjl)
  have HT2 : Hid (TAt w2 lab M T) := HT.out.below HB2.out
  go_wp2
  go_loopw [10, 11, 12] (fun y v z wr => ∃ ix k : Nat, y = .int .i64 (ix) ∧ z = .int .i64 (k) ∧ k ≤ 4 ∧ ix < pn ∧ OV w2 wr v T k) (fun _ _ z _ => 4 - (intOf z).toNat)
  case atStart => exact ⟨ix0, 0, rfl, rfl, Nat.zero_le _, hixl, OV.nil w2 T⟩
  case round =>
    rename_i y1 v1 z1
    obtain ⟨ix, k, rfl, rfl, hk, hxl, hO⟩ := hrel
    have HBR := hid hO.bl
    have HO := hid hO
    clear hO hix hixl
    by_cases hk4 : k < 4
    · have dk : decide ((k : Int) < 4) = true := by simp; omega
      have dkn : decide (k < 4) = true := by simp; omega
      rcases (by omega : k = 0 ∨ k = 1 ∨ k = 2 ∨ k = 3) with rfl | rfl | rfl | rfl
      · --BEGIN 0
        go_wp2_with (first | (go_at_call 19; refine hold ?_))
        unfold Hid
        refine calls_nm fun w3 hw3 => ?_
        have hb3 : Below wr.heap.size wr w3 := by rw [hw3]; (repeat (first | with_reducible exact Below.rf _ | with_reducible exact World.below_ext _ _ | with_reducible refine Below.ex ?_ _ | with_reducible refine Below.al ?_ _ | with_reducible refine Below.setCell ?_ (by simp) _ | with_reducible refine Below.drew ?_))
        clear hw3
        have h23 := HBR.out.trans (hb3.mono HBR.out.size)
        refine (clone_CK M T lab w3 (HT2.out.below h23)).mono ?_
        rintro e w4 ⟨tb, rfl, hC4, htl⟩
        have h24 := h23.trans (hC4.bl.mono h23.size)
        have r0 : (w4).cell? ⟨rb, 0, none⟩ = some (.int .i64 (q.r)) := (HR2.out.below h24).is 0 (by omega)
        have r1 : (w4).cell? ⟨rb, 1, none⟩ = some (.int .i64 (q.s)) := (HR2.out.below h24).is 1 (by omega)
        have r2 : (w4).cell? ⟨rb, 2, none⟩ = some (.int .i64 (q.t)) := (HR2.out.below h24).is 2 (by omega)
        have hrl := (HR2.out.below h24).lt
        have HC4 := hid hC4
        have HB3 := hid hb3
        have H23 := hid h23
        clear hC4 hb3 h24 h23 htl
        go_wp2_with (first | (go_at_call 52; refine hold ?_))
        unfold Hid
        refine calls_nm fun w5 hw5 => ?_
        have hC5 : CK w3 w5 tb T := HC4.out.below (by rw [hw5]; (repeat (first | with_reducible exact Below.rf _ | with_reducible exact World.below_ext _ _ | with_reducible refine Below.ex ?_ _ | with_reducible refine Below.al ?_ _ | with_reducible refine Below.setCell ?_ (by simp) _ | with_reducible refine Below.drew ?_)))
        clear hw5 r0 r1 r2 hrl HC4
        refine (hC5.cut q.r (q.t - 1) (by unfold I64; omega)).mono ?_
        rintro e w6 ⟨⟨ca, cb, rfl⟩, hC6⟩
        have h26 := H23.out.trans (hC6.bl.mono H23.out.size)
        have r0 : (w6).cell? ⟨rb, 0, none⟩ = some (.int .i64 (q.r)) := (HR2.out.below h26).is 0 (by omega)
        have r1 : (w6).cell? ⟨rb, 1, none⟩ = some (.int .i64 (q.s)) := (HR2.out.below h26).is 1 (by omega)
        have r2 : (w6).cell? ⟨rb, 2, none⟩ = some (.int .i64 (q.t)) := (HR2.out.below h26).is 2 (by omega)
        have hrl := (HR2.out.below h26).lt
        have HC6 := hid hC6
        clear hC5 hC6 h26
        go_wp2_with (first | (go_at_call 52; refine hold ?_))
        unfold Hid
        refine calls_nm fun w7 hw7 => ?_
        have hC7 : CK w3 w7 tb T := HC6.out.below (by rw [hw7]; (repeat (first | with_reducible exact Below.rf _ | with_reducible exact World.below_ext _ _ | with_reducible refine Below.ex ?_ _ | with_reducible refine Below.al ?_ _ | with_reducible refine Below.setCell ?_ (by simp) _ | with_reducible refine Below.drew ?_)))
        clear hw7 r0 r1 r2 hrl HC6
        refine (hC7.cut ot (q.t - 1) (by unfold I64; omega)).mono ?_
        rintro e w8 ⟨⟨cc, cd, rfl⟩, hC8⟩
        have h28 := H23.out.trans (hC8.bl.mono H23.out.size)
        have r0 : (w8).cell? ⟨rb, 0, none⟩ = some (.int .i64 (q.r)) := (HR2.out.below h28).is 0 (by omega)
        have r1 : (w8).cell? ⟨rb, 1, none⟩ = some (.int .i64 (q.s)) := (HR2.out.below h28).is 1 (by omega)
        have r2 : (w8).cell? ⟨rb, 2, none⟩ = some (.int .i64 (q.t)) := (HR2.out.below h28).is 2 (by omega)
        have hrl := (HR2.out.below h28).lt
        have HC8 := hid hC8
        have H28 := hid h28
        clear hC7 hC8 h28
        have hwi := PC.out w8 ix (HB2.out.trans (H28.out.mono HB2.out.size)) hxl
        have hpi := PI.out ix hxl
        have hbk8 := Nat.lt_of_lt_of_le hbk (Nat.le_trans HB2.out.size H28.out.size)
        have dix : decide (ix < pn) = true := by simp; omega
        generalize path.getD ix 0 = py at hwi hpi
        go_wp2
        first | with_reducible refine wp_region_tail_ext2 10 (by kernel_rfl) (by kernel_rfl) ?_ | refine wp_region_tail_ext 10 (by kernel_rfl) (by kernel_rfl) ?_
        simp only [List.take_succ_cons, List.take_zero, List.drop_succ_cons, List.drop_zero]
        repeat (go_big_quiet_step (fail))
        refine wpQuiet_nil ?_
        rintro _ ⟨z, rfl⟩
        go_wp2_with (first | (go_at_call 72; refine hold ?_))
        unfold Hid
        refine ((HC8.out.below (World.below_ext w8 z)).res HHH.out ot py (q.t + ix) (by unfold I64; omega) hpi (by unfold I64; omega)).mono ?_
        rintro e w9 ⟨⟨cg, rfl⟩, hC9⟩
        have HC9 := hid hC9
        clear hC9 hwi hpi hbk8 r0 r1 r2 hrl
        go_wp2_with (first | (at_builtin; refine hold ?_))
        unfold Hid
        refine wpl_nm fun w20 hw20 => ?_
        have b20 : Below w9.heap.size w9 w20 := by rw [hw20]; (repeat (first | with_reducible exact Below.rf _ | with_reducible exact World.below_ext _ _ | with_reducible refine Below.ex ?_ _ | with_reducible refine Below.al ?_ _ | with_reducible refine Below.setCell ?_ (by simp) _ | with_reducible refine Below.drew ?_))
        have n20 : w20.cell? ⟨w9.heap.size, 0, none⟩ = some (.pointer (some ⟨tb, 0, none⟩)) := by rw [hw20]; simp [go_sem, ↓IntWalk.iteOmega]
        clear hw20
        refine wpl_cp rfl _ _ 80 26 (.pointer none) 8 rfl Try.underlying80 (by kernel_rfl) rfl HO.out HB3.out ((HC9.out).below b20) rfl (by omega) (by omega) _ rfl n20 ?_
        intro v21 w21 hO21
        have HO21 := hid hO21
        clear hO21 n20 b20
        go_wp2
        go_roundw
        case rel => exact ⟨ix, 1, rfl, by first | rfl | go_num, by omega, by omega, HO21.out⟩
        case measure => (simp [intOf] <;> omega)
        --END 0
      · --BEGIN 1
        go_wp2_with (first | (go_at_call 19; refine hold ?_))
        unfold Hid
        refine calls_nm fun w3 hw3 => ?_
        have hb3 : Below wr.heap.size wr w3 := by rw [hw3]; (repeat (first | with_reducible exact Below.rf _ | with_reducible exact World.below_ext _ _ | with_reducible refine Below.ex ?_ _ | with_reducible refine Below.al ?_ _ | with_reducible refine Below.setCell ?_ (by simp) _ | with_reducible refine Below.drew ?_))
        clear hw3
        have h23 := HBR.out.trans (hb3.mono HBR.out.size)
        refine (clone_CK M T lab w3 (HT2.out.below h23)).mono ?_
        rintro e w4 ⟨tb, rfl, hC4, htl⟩
        have h24 := h23.trans (hC4.bl.mono h23.size)
        have r0 : (w4).cell? ⟨rb, 0, none⟩ = some (.int .i64 (q.r)) := (HR2.out.below h24).is 0 (by omega)
        have r1 : (w4).cell? ⟨rb, 1, none⟩ = some (.int .i64 (q.s)) := (HR2.out.below h24).is 1 (by omega)
        have r2 : (w4).cell? ⟨rb, 2, none⟩ = some (.int .i64 (q.t)) := (HR2.out.below h24).is 2 (by omega)
        have hrl := (HR2.out.below h24).lt
        have HC4 := hid hC4
        have HB3 := hid hb3
        have H23 := hid h23
        clear hC4 hb3 h24 h23 htl
        go_wp2_with (first | (go_at_call 52; refine hold ?_))
        unfold Hid
        refine calls_nm fun w5 hw5 => ?_
        have hC5 : CK w3 w5 tb T := HC4.out.below (by rw [hw5]; (repeat (first | with_reducible exact Below.rf _ | with_reducible exact World.below_ext _ _ | with_reducible refine Below.ex ?_ _ | with_reducible refine Below.al ?_ _ | with_reducible refine Below.setCell ?_ (by simp) _ | with_reducible refine Below.drew ?_)))
        clear hw5 r0 r1 r2 hrl HC4
        refine (hC5.cut q.r (q.t - 1) (by unfold I64; omega)).mono ?_
        rintro e w6 ⟨⟨ca, cb, rfl⟩, hC6⟩
        have h26 := H23.out.trans (hC6.bl.mono H23.out.size)
        have r0 : (w6).cell? ⟨rb, 0, none⟩ = some (.int .i64 (q.r)) := (HR2.out.below h26).is 0 (by omega)
        have r1 : (w6).cell? ⟨rb, 1, none⟩ = some (.int .i64 (q.s)) := (HR2.out.below h26).is 1 (by omega)
        have r2 : (w6).cell? ⟨rb, 2, none⟩ = some (.int .i64 (q.t)) := (HR2.out.below h26).is 2 (by omega)
        have hrl := (HR2.out.below h26).lt
        have HC6 := hid hC6
        clear hC5 hC6 h26
        go_wp2_with (first | (go_at_call 52; refine hold ?_))
        unfold Hid
        refine calls_nm fun w7 hw7 => ?_
        have hC7 : CK w3 w7 tb T := HC6.out.below (by rw [hw7]; (repeat (first | with_reducible exact Below.rf _ | with_reducible exact World.below_ext _ _ | with_reducible refine Below.ex ?_ _ | with_reducible refine Below.al ?_ _ | with_reducible refine Below.setCell ?_ (by simp) _ | with_reducible refine Below.drew ?_)))
        clear hw7 r0 r1 r2 hrl HC6
        refine (hC7.cut ot (q.t - 1) (by unfold I64; omega)).mono ?_
        rintro e w8 ⟨⟨cc, cd, rfl⟩, hC8⟩
        have h28 := H23.out.trans (hC8.bl.mono H23.out.size)
        have r0 : (w8).cell? ⟨rb, 0, none⟩ = some (.int .i64 (q.r)) := (HR2.out.below h28).is 0 (by omega)
        have r1 : (w8).cell? ⟨rb, 1, none⟩ = some (.int .i64 (q.s)) := (HR2.out.below h28).is 1 (by omega)
        have r2 : (w8).cell? ⟨rb, 2, none⟩ = some (.int .i64 (q.t)) := (HR2.out.below h28).is 2 (by omega)
        have hrl := (HR2.out.below h28).lt
        have HC8 := hid hC8
        have H28 := hid h28
        clear hC7 hC8 h28
        obtain ⟨wo, rfl⟩ : ∃ y, y = wr := ⟨_, rfl⟩
        have h08 := HB2.out.trans (H28.out.mono HB2.out.size)
        have hbk8 := Nat.lt_of_lt_of_le hbk h08.size
        have H08 := hid h08
        clear h08
        go_wp2
        go_loopw [10] (fun y wi => ∃ jx : Nat, y = .int .i64 (jx) ∧ jx < pn ∧ Below w8.heap.size w8 wi) (fun y _ => pn - (intOf y).toNat)
        case atStart => exact ⟨ix, rfl, hxl, Below.rf _⟩
        case round =>
          obtain ⟨jx, rfl, hjl, hBi⟩ := hrel
          have h0i := H08.out.trans (hBi.mono H08.out.size)
          have hbki := Nat.lt_of_lt_of_le hbk8 hBi.size
          have q2 : wr.cell? ⟨rb, 2, none⟩ = some (.int .i64 (q.t)) := (World.cell?_of_block (hBi.block rb hrl)).trans r2
          have hrli := Nat.lt_of_lt_of_le hrl hBi.size
          have HBI := hid hBi
          have djx : decide (jx < pn) = true := by simp; omega
          by_cases hj1 : jx + 1 < pn
          · have dj : decide ((jx : Int) + 1 < (pn : Int)) = true := by simp; omega
            have djn : decide (jx + 1 < pn) = true := by simp; omega
            have hy1 := PC.out wr jx h0i hjl
            have hy2 := PC.out wr (jx + 1) h0i hj1
            have hp1 := PI.out jx hjl
            have hp2 := PI.out (jx + 1) hj1
            obtain ⟨py, hpy⟩ : ∃ y, path.getD jx 0 = y := ⟨_, rfl⟩
            obtain ⟨pz, hpz⟩ : ∃ y, path.getD (jx + 1) 0 = y := ⟨_, rfl⟩
            rw [hpy] at hy1 hp1
            rw [hpz] at hy2 hp2
            clear h0i hBi r0 r1 r2 hrl
            by_cases heq : py = pz
            · have de : (py == pz) = true := by simp [heq]
              --BEGIN 5
              go_wp2
              first | with_reducible refine wp_region_ext2 (by kernel_rfl) (by kernel_rfl) ?_ | refine wp_region_ext (by kernel_rfl) (by kernel_rfl) ?_
              repeat (go_big_quiet_step (fail))
              refine wpQuiet_nil ?_
              rintro w9 ⟨z, hw2⟩
              have HB9 : Hid (Below w8.heap.size w8 w9) := HBI.out.trans (Below.mono (by rw [hw2]; exact World.below_ext _ _) HBI.out.size)
              clear hw2
              go_wp2
              go_roundw
              case rel => exact ⟨jx + 1, by go_num, hj1, HB9.out⟩
              case measure => (simp [intOf] <;> omega)
              --END 5
            · have de : (py == pz) = false := by simp [heq]
              --BEGIN 6
              go_wp2
              first | with_reducible refine wp_region_ext2 (by kernel_rfl) (by kernel_rfl) ?_ | refine wp_region_ext (by kernel_rfl) (by kernel_rfl) ?_
              repeat (go_big_quiet_step (fail))
              refine wpQuiet_nil ?_
              rintro w9 ⟨z, hw2⟩
              have b9 : Below wr.heap.size wr w9 := by rw [hw2]; exact World.below_ext _ _
              clear hw2
              have k1 := (World.cell?_of_block (b9.block bk hbki)).trans hy1
              have k2 := (World.cell?_of_block (b9.block bk hbki)).trans hy2
              have k3 := (World.cell?_of_block (b9.block rb hrli)).trans q2
              have hbk9 := Nat.lt_of_lt_of_le hbki b9.size
              have hrl9 := Nat.lt_of_lt_of_le hrli b9.size
              have HC9 : Hid (CK w3 w9 tb T) := HC8.out.below (HBI.out.trans (b9.mono HBI.out.size))
              have fz1 : IntKind.i64.wrap ((jx : Int) + 1) = (jx : Int) + 1 := by simp [IntKind.wrap, IntKind.bits, IntKind.signed]; omega
              have fz2 : (0 : Int) ≤ (jx : Int) + 1 := by omega
              have fz3 : (jx : Int) + 1 < (pn : Int) := by omega
              have fz4 : IntKind.i64.wrap (q.t + (jx : Int)) = q.t + (jx : Int) := by simp [IntKind.wrap, IntKind.bits, IntKind.signed]; omega
              have fz5 : (0 : Int) ≤ (jx : Int) := by omega
              have fz6 : (jx : Int) < (pn : Int) := by omega
              have KX : Hid (∀ w', Below w3.heap.size w3 w' → w'.cell? ⟨rb, 2, none⟩ = some (.int .i64 (q.t)) ∧ w'.cell? ⟨bk, ba + jx, none⟩ = some (.int .i64 (py)) ∧ w'.cell? ⟨bk, ba + (jx + 1), none⟩ = some (.int .i64 (pz))) := fun w' h => by
                have h2 := H23.out.trans (h.mono H23.out.size)
                have h0 := HB2.out.trans (h2.mono HB2.out.size)
                exact ⟨(HR2.out.below h2).is 2 (by omega), hpy ▸ PC.out w' jx h0 hjl, hpz ▸ PC.out w' (jx + 1) h0 hj1⟩
              clear hy1 hy2 q2 hrli hbki b9 hpy hpz
              go_wp2
              go_region_held3 (fun w' => w'.cell? ⟨rb, 2, none⟩ = some (.int .i64 (q.t)) ∧ w'.cell? ⟨bk, ba + jx, none⟩ = some (.int .i64 (py)) ∧ w'.cell? ⟨bk, ba + (jx + 1), none⟩ = some (.int .i64 (pz))) (first | assumption | simp [go_sem, ↓IntWalk.iteOmega, *]) ((go_at_call 51; refine (HC9.out.path (by (repeat (first | with_reducible exact Below.rf _ | with_reducible exact World.below_ext _ _ | with_reducible refine Below.ex ?_ _ | with_reducible refine Below.al ?_ _ | with_reducible refine Below.setCell ?_ (by simp) _ | with_reducible refine Below.drew ?_))) HHH.out ot (q.t + jx) (by unfold I64; omega) (by unfold I64; omega) _ (by simp) (by simp) pz py hp2 hp1 (by simp [go_sem, ↓IntWalk.iteOmega]) (by simp [go_sem, ↓IntWalk.iteOmega])).mono ?_; rintro e w13 ⟨⟨cg1, cg2, rfl⟩, hC13⟩; have k13 := KX.out w13 hC13.bl))
              have HC13 := hid hC13
              clear hC13 k13 k1 k2 k3 hbk9 hrl9
              go_wp2_with (first | (at_builtin; refine hold ?_))
              unfold Hid
              refine wpl_nm fun w20 hw20 => ?_
              have b20 : Below w13.heap.size w13 w20 := by rw [hw20]; (repeat (first | with_reducible exact Below.rf _ | with_reducible exact World.below_ext _ _ | with_reducible refine Below.ex ?_ _ | with_reducible refine Below.al ?_ _ | with_reducible refine Below.setCell ?_ (by simp) _ | with_reducible refine Below.drew ?_))
              have n20 : w20.cell? ⟨w13.heap.size, 0, none⟩ = some (.pointer (some ⟨tb, 0, none⟩)) := by rw [hw20]; simp [go_sem, ↓IntWalk.iteOmega]
              clear hw20
              refine wpl_cp rfl _ _ 80 26 (.pointer none) 8 rfl Try.underlying80 (by kernel_rfl) rfl HO.out HB3.out ((HC13.out).below b20) rfl (by omega) (by omega) _ rfl n20 ?_
              intro v21 w21 hO21
              have HO21 := hid hO21
              clear hO21 n20 b20
              go_wp2
              go_roundw
              case rel => exact ⟨jx, 2, rfl, by first | rfl | go_num, by omega, by omega, HO21.out⟩
              case measure => (simp [intOf] <;> omega)
              --END 6
          · have dj : decide ((jx : Int) + 1 < (pn : Int)) = false := by simp; omega
            have djn : decide (jx + 1 < pn) = false := by simp; omega
            clear h0i hBi r0 r1 r2 hrl
            --BEGIN 7
            go_wp2
            first | with_reducible refine wp_region_ext2 (by kernel_rfl) (by kernel_rfl) ?_ | refine wp_region_ext (by kernel_rfl) (by kernel_rfl) ?_
            repeat (go_big_quiet_step (fail))
            refine wpQuiet_nil ?_
            rintro w9 ⟨z, hw2⟩
            have HC9 : Hid (CK w3 w9 tb T) := HC8.out.below (HBI.out.trans (Below.mono (by rw [hw2]; exact World.below_ext _ _) HBI.out.size))
            clear hw2
            go_wp2_with (first | (at_builtin; refine hold ?_))
            unfold Hid
            refine wpl_nm fun w20 hw20 => ?_
            have b20 : Below w9.heap.size w9 w20 := by rw [hw20]; (repeat (first | with_reducible exact Below.rf _ | with_reducible exact World.below_ext _ _ | with_reducible refine Below.ex ?_ _ | with_reducible refine Below.al ?_ _ | with_reducible refine Below.setCell ?_ (by simp) _ | with_reducible refine Below.drew ?_))
            have n20 : w20.cell? ⟨w9.heap.size, 0, none⟩ = some (.pointer (some ⟨tb, 0, none⟩)) := by rw [hw20]; simp [go_sem, ↓IntWalk.iteOmega]
            clear hw20
            refine wpl_cp rfl _ _ 80 26 (.pointer none) 8 rfl Try.underlying80 (by kernel_rfl) rfl HO.out HB3.out ((HC9.out).below b20) rfl (by omega) (by omega) _ rfl n20 ?_
            intro v21 w21 hO21
            have HO21 := hid hO21
            clear hO21 n20 b20
            go_wp2
            go_roundw
            case rel => exact ⟨jx, 2, rfl, by first | rfl | go_num, by omega, by omega, HO21.out⟩
            case measure => (simp [intOf] <;> omega)
            --END 7
        --END 1
      · --BEGIN 2
        go_wp2_with (first | (go_at_call 19; refine hold ?_))
        unfold Hid
        refine calls_nm fun w3 hw3 => ?_
        have hb3 : Below wr.heap.size wr w3 := by rw [hw3]; (repeat (first | with_reducible exact Below.rf _ | with_reducible exact World.below_ext _ _ | with_reducible refine Below.ex ?_ _ | with_reducible refine Below.al ?_ _ | with_reducible refine Below.setCell ?_ (by simp) _ | with_reducible refine Below.drew ?_))
        clear hw3
        have h23 := HBR.out.trans (hb3.mono HBR.out.size)
        refine (clone_CK M T lab w3 (HT2.out.below h23)).mono ?_
        rintro e w4 ⟨tb, rfl, hC4, htl⟩
        have h24 := h23.trans (hC4.bl.mono h23.size)
        have r0 : (w4).cell? ⟨rb, 0, none⟩ = some (.int .i64 (q.r)) := (HR2.out.below h24).is 0 (by omega)
        have r1 : (w4).cell? ⟨rb, 1, none⟩ = some (.int .i64 (q.s)) := (HR2.out.below h24).is 1 (by omega)
        have r2 : (w4).cell? ⟨rb, 2, none⟩ = some (.int .i64 (q.t)) := (HR2.out.below h24).is 2 (by omega)
        have hrl := (HR2.out.below h24).lt
        have HC4 := hid hC4
        have HB3 := hid hb3
        have H23 := hid h23
        clear hC4 hb3 h24 h23 htl
        go_wp2_with (first | (go_at_call 52; refine hold ?_))
        unfold Hid
        refine calls_nm fun w5 hw5 => ?_
        have hC5 : CK w3 w5 tb T := HC4.out.below (by rw [hw5]; (repeat (first | with_reducible exact Below.rf _ | with_reducible exact World.below_ext _ _ | with_reducible refine Below.ex ?_ _ | with_reducible refine Below.al ?_ _ | with_reducible refine Below.setCell ?_ (by simp) _ | with_reducible refine Below.drew ?_)))
        clear hw5 r0 r1 r2 hrl HC4
        refine (hC5.cut q.r (q.t - 1) (by unfold I64; omega)).mono ?_
        rintro e w6 ⟨⟨ca, cb, rfl⟩, hC6⟩
        have h26 := H23.out.trans (hC6.bl.mono H23.out.size)
        have r0 : (w6).cell? ⟨rb, 0, none⟩ = some (.int .i64 (q.r)) := (HR2.out.below h26).is 0 (by omega)
        have r1 : (w6).cell? ⟨rb, 1, none⟩ = some (.int .i64 (q.s)) := (HR2.out.below h26).is 1 (by omega)
        have r2 : (w6).cell? ⟨rb, 2, none⟩ = some (.int .i64 (q.t)) := (HR2.out.below h26).is 2 (by omega)
        have hrl := (HR2.out.below h26).lt
        have HC6 := hid hC6
        clear hC5 hC6 h26
        go_wp2_with (first | (go_at_call 52; refine hold ?_))
        unfold Hid
        refine calls_nm fun w7 hw7 => ?_
        have hC7 : CK w3 w7 tb T := HC6.out.below (by rw [hw7]; (repeat (first | with_reducible exact Below.rf _ | with_reducible exact World.below_ext _ _ | with_reducible refine Below.ex ?_ _ | with_reducible refine Below.al ?_ _ | with_reducible refine Below.setCell ?_ (by simp) _ | with_reducible refine Below.drew ?_)))
        clear hw7 r0 r1 r2 hrl HC6
        refine (hC7.cut ot (q.t - 1) (by unfold I64; omega)).mono ?_
        rintro e w8 ⟨⟨cc, cd, rfl⟩, hC8⟩
        have h28 := H23.out.trans (hC8.bl.mono H23.out.size)
        have r0 : (w8).cell? ⟨rb, 0, none⟩ = some (.int .i64 (q.r)) := (HR2.out.below h28).is 0 (by omega)
        have r1 : (w8).cell? ⟨rb, 1, none⟩ = some (.int .i64 (q.s)) := (HR2.out.below h28).is 1 (by omega)
        have r2 : (w8).cell? ⟨rb, 2, none⟩ = some (.int .i64 (q.t)) := (HR2.out.below h28).is 2 (by omega)
        have hrl := (HR2.out.below h28).lt
        have HC8 := hid hC8
        have H28 := hid h28
        clear hC7 hC8 h28
        have h08 := HB2.out.trans (H28.out.mono HB2.out.size)
        obtain ⟨pm, hpm⟩ : ∃ y, pn = y + 1 := ⟨pn - 1, by omega⟩
        have fw2 : (pn : Int) - 1 = (pm : Int) := by omega
        have fw3 : IntKind.i64.wrap ((pn : Int) - 1) = (pm : Int) := by simp [IntKind.wrap, IntKind.bits, IntKind.signed]; omega
        have fw4 : (0 : Int) ≤ (pm : Int) := by omega
        have fw6 : IntKind.i64.wrap (pm : Int) = (pm : Int) := by simp [IntKind.wrap, IntKind.bits, IntKind.signed]; omega
        have fw5 : (pm : Int) < (pn : Int) := by omega
        have dpm : decide (pm < pn) = true := by simp; omega
        have hwi := PC.out w8 pm h08 (by omega)
        have hpi := PI.out pm (by omega)
        generalize path.getD pm 0 = py at hwi hpi
        have hbk8 := Nat.lt_of_lt_of_le hbk h08.size
        obtain ⟨ar, har⟩ : ∃ y : Int, t + (pn : Int) - 1 = y := ⟨_, rfl⟩
        have harb : 0 ≤ ar ∧ ar ≤ 3000000000 := by omega
        have AR : Hid (∀ w' : World, Calls Try.prog 36 #[.agg #[.int .u8 (c), .int .i64 (t), .slice (some ⟨bk, ba, none⟩) pn pc, dv, .int .i64 (x)]] w' fun e w'' => e = .returned (.int .i64 (ar)) ∧ ∃ z, w'' = w'.ext z) := fun w' => by
          rw [← har]
          exact arrival_any c t x _ pn pc dv w' (by omega) (by omega)
        have hD8 := HDD.out.below h08
        have d0 := hD8.c0
        have d10 := hD8.c10
        have d11 := hD8.c11
        have d12 : w8.cell? ⟨d, 12, none⟩ = some (.slice (some ⟨bk, ba, none⟩) pn pc) := hD8.c12
        have d13 := hD8.c13
        have d14 := hD8.c14
        have hd8 := hD8.lt
        clear hpm har hD8 h08 r0 r1 r2 hrl
        go_wp2
        first | with_reducible refine wp_region_tail_ext2 16 (by kernel_rfl) (by kernel_rfl) ?_ | refine wp_region_tail_ext 16 (by kernel_rfl) (by kernel_rfl) ?_
        simp only [List.take_succ_cons, List.take_zero, List.drop_succ_cons, List.drop_zero]
        repeat (go_big_quiet_step ((go_at_call 36; with_reducible exact Calls.ext_of (AR.out _))))
        refine wpQuiet_nil ?_
        rintro _ ⟨z, rfl⟩
        go_wp2_with (first | (go_at_call 72; refine hold ?_))
        unfold Hid
        refine ((HC8.out.below (World.below_ext w8 z)).res HHH.out ot py _ (by unfold I64; omega) hpi (by unfold I64; omega)).mono ?_
        rintro e w9 ⟨⟨cg, rfl⟩, hC9⟩
        have HC9 := hid hC9
        clear hC9 hwi hpi hbk8 d0 d10 d11 d12 d13 d14 hd8
        go_wp2_with (first | (at_builtin; refine hold ?_))
        unfold Hid
        refine wpl_nm fun w20 hw20 => ?_
        have b20 : Below w9.heap.size w9 w20 := by rw [hw20]; (repeat (first | with_reducible exact Below.rf _ | with_reducible exact World.below_ext _ _ | with_reducible refine Below.ex ?_ _ | with_reducible refine Below.al ?_ _ | with_reducible refine Below.setCell ?_ (by simp) _ | with_reducible refine Below.drew ?_))
        have n20 : w20.cell? ⟨w9.heap.size, 0, none⟩ = some (.pointer (some ⟨tb, 0, none⟩)) := by rw [hw20]; simp [go_sem, ↓IntWalk.iteOmega]
        clear hw20
        refine wpl_cp rfl _ _ 80 26 (.pointer none) 8 rfl Try.underlying80 (by kernel_rfl) rfl HO.out HB3.out ((HC9.out).below b20) rfl (by omega) (by omega) _ rfl n20 ?_
        intro v21 w21 hO21
        have HO21 := hid hO21
        clear hO21 n20 b20
        go_wp2
        go_roundw
        case rel => exact ⟨ix, 3, rfl, by first | rfl | go_num, by omega, by omega, HO21.out⟩
        case measure => (simp [intOf] <;> omega)
        --END 2
      · --BEGIN 3
        obtain ⟨sn, hsn⟩ : ∃ y : Nat, q.s = y := ⟨q.s.toNat, by omega⟩
        have hsn2 : q.s.toNat = sn := by omega
        have hsnn : sn < F.n := by omega
        have HSN := hid hsn
        clear hsn
        obtain ⟨nv, hnI, hnC⟩ := near_val fb F lab sn hsnn w2 (HF.out.below HB2.out)
        have hnn := HNB.out
        rw [hsn2] at hnn
        obtain ⟨nao, nc, hnv, -⟩ := hnI.ex
        obtain ⟨nn, hnl⟩ : ∃ y, (F.near sn).length = y := ⟨_, rfl⟩
        have hn1 : 1 ≤ nn := by
          rw [← hnl]
          exact List.length_pos_iff.2 hnn
        have hn2 := hnI.len
        rw [hnl] at hnv hn2
        subst hnv
        obtain ⟨nk, na, hna, hnk, -⟩ := ints_at hnI (Below.rf _) (i := 0) (by rw [hnl]; omega)
        subst hna
        have NR : Hid (∀ w' : World, Below w2.heap.size w2 w' → Calls Try.prog 32 #[.pointer (some ⟨fb, 0, none⟩), .int .i64 (sn)] w' fun e w'' => e = .returned (.slice (some ⟨nk, na, none⟩) nn nc) ∧ w'' = w') := fun w' h => hnC w' (KeptL.of_below h)
        obtain ⟨jn, hix, hixl⟩ : ∃ y : Nat, (wh : Int).tmod (nn : Int) = y ∧ y < nn := ⟨wh % nn, by rw [Int.tmod_eq_emod_of_nonneg (by omega)]; simp, Nat.mod_lt _ (by omega)⟩
        have NC : Hid (∀ w', Below w2.heap.size w2 w' → w'.cell? ⟨nk, na + jn, none⟩ = some (.int .i64 ((F.near sn).getD jn 0))) := fun w' h => by
          obtain ⟨b', a', e1, -, e2⟩ := ints_at hnI h (i := jn) (by rw [hnl]; exact hixl)
          simp only [Option.some.injEq, Addr.mk.injEq, and_true] at e1
          rw [e1.1, e1.2]
          exact e2
        have hpv : I64 ((F.near sn).getD jn 0) := by
          have hjl : jn < (F.near sn).length := by rw [hnl]; exact hixl
          rw [List.getD_eq_getElem?_getD, List.getElem?_eq_getElem hjl]
          exact hnI.i64 _ (List.getElem_mem hjl)
        generalize (F.near sn).getD jn 0 = pz at *
        have dn0 : ((nn : Int) == 0) = false := by simp; omega
        have djn : decide (jn < nn) = true := by simp; omega
        have HPV := hid hpv
        clear hnI hnC hnn hnl hpv
        go_wp2_with (first | (go_at_call 19; refine hold ?_))
        unfold Hid
        refine calls_nm fun w3 hw3 => ?_
        have hb3 : Below wr.heap.size wr w3 := by rw [hw3]; (repeat (first | with_reducible exact Below.rf _ | with_reducible exact World.below_ext _ _ | with_reducible refine Below.ex ?_ _ | with_reducible refine Below.al ?_ _ | with_reducible refine Below.setCell ?_ (by simp) _ | with_reducible refine Below.drew ?_))
        clear hw3
        have h23 := HBR.out.trans (hb3.mono HBR.out.size)
        refine (clone_CK M T lab w3 (HT2.out.below h23)).mono ?_
        rintro e w4 ⟨tb, rfl, hC4, htl⟩
        have h24 := h23.trans (hC4.bl.mono h23.size)
        have r0 : (w4).cell? ⟨rb, 0, none⟩ = some (.int .i64 (q.r)) := (HR2.out.below h24).is 0 (by omega)
        have r1 : (w4).cell? ⟨rb, 1, none⟩ = some (.int .i64 (q.s)) := (HR2.out.below h24).is 1 (by omega)
        have r2 : (w4).cell? ⟨rb, 2, none⟩ = some (.int .i64 (q.t)) := (HR2.out.below h24).is 2 (by omega)
        have hrl := (HR2.out.below h24).lt
        have HC4 := hid hC4
        have HB3 := hid hb3
        have H23 := hid h23
        clear hC4 hb3 h24 h23 htl
        go_wp2_with (first | (go_at_call 52; refine hold ?_))
        unfold Hid
        refine calls_nm fun w5 hw5 => ?_
        have hC5 : CK w3 w5 tb T := HC4.out.below (by rw [hw5]; (repeat (first | with_reducible exact Below.rf _ | with_reducible exact World.below_ext _ _ | with_reducible refine Below.ex ?_ _ | with_reducible refine Below.al ?_ _ | with_reducible refine Below.setCell ?_ (by simp) _ | with_reducible refine Below.drew ?_)))
        clear hw5 r0 r1 r2 hrl HC4
        refine (hC5.cut q.r (q.t - 1) (by unfold I64; omega)).mono ?_
        rintro e w6 ⟨⟨ca, cb, rfl⟩, hC6⟩
        have h26 := H23.out.trans (hC6.bl.mono H23.out.size)
        have r0 : (w6).cell? ⟨rb, 0, none⟩ = some (.int .i64 (q.r)) := (HR2.out.below h26).is 0 (by omega)
        have r1 : (w6).cell? ⟨rb, 1, none⟩ = some (.int .i64 (q.s)) := (HR2.out.below h26).is 1 (by omega)
        have r2 : (w6).cell? ⟨rb, 2, none⟩ = some (.int .i64 (q.t)) := (HR2.out.below h26).is 2 (by omega)
        have hrl := (HR2.out.below h26).lt
        have HC6 := hid hC6
        clear hC5 hC6 h26
        go_wp2_with (first | (go_at_call 52; refine hold ?_))
        unfold Hid
        refine calls_nm fun w7 hw7 => ?_
        have hC7 : CK w3 w7 tb T := HC6.out.below (by rw [hw7]; (repeat (first | with_reducible exact Below.rf _ | with_reducible exact World.below_ext _ _ | with_reducible refine Below.ex ?_ _ | with_reducible refine Below.al ?_ _ | with_reducible refine Below.setCell ?_ (by simp) _ | with_reducible refine Below.drew ?_)))
        clear hw7 r0 r1 r2 hrl HC6
        refine (hC7.cut ot (q.t - 1) (by unfold I64; omega)).mono ?_
        rintro e w8 ⟨⟨cc, cd, rfl⟩, hC8⟩
        have h28 := H23.out.trans (hC8.bl.mono H23.out.size)
        have r0 : (w8).cell? ⟨rb, 0, none⟩ = some (.int .i64 (q.r)) := (HR2.out.below h28).is 0 (by omega)
        have r1 : (w8).cell? ⟨rb, 1, none⟩ = some (.int .i64 (q.s)) := (HR2.out.below h28).is 1 (by omega)
        have r2 : (w8).cell? ⟨rb, 2, none⟩ = some (.int .i64 (q.t)) := (HR2.out.below h28).is 2 (by omega)
        have hrl := (HR2.out.below h28).lt
        have HC8 := hid hC8
        have H28 := hid h28
        clear hC7 hC8 h28
        have h08 := HB2.out.trans (H28.out.mono HB2.out.size)
        rw [HSN.out] at r1
        have d0 := (HDD.out.below h08).c0
        have hd8 := (HDD.out.below h08).lt
        have n0 := NC.out w8 H28.out
        have hnk8 := Nat.lt_of_lt_of_le hnk H28.out.size
        have NR8 : Hid (∀ w' : World, Below w8.heap.size w8 w' → Calls Try.prog 32 #[.pointer (some ⟨fb, 0, none⟩), .int .i64 (sn)] w' fun e w'' => e = .returned (.slice (some ⟨nk, na, none⟩) nn nc) ∧ w'' = w') := fun w' h => NR.out w' (H28.out.trans (h.mono H28.out.size))
        go_wp2
        first | with_reducible refine wp_region_ext2 (by kernel_rfl) (by kernel_rfl) ?_ | refine wp_region_ext (by kernel_rfl) (by kernel_rfl) ?_
        repeat (go_big_quiet_step ((go_at_call 32; exact Calls.ext_of_same (NR8.out _ (by (repeat (first | with_reducible exact Below.rf _ | with_reducible exact World.below_ext _ _ | with_reducible refine Below.ex ?_ _ | with_reducible refine Below.al ?_ _ | with_reducible refine Below.setCell ?_ (by simp) _ | with_reducible refine Below.drew ?_)))))))
        refine wpQuiet_nil ?_
        rintro w9 ⟨z, hw2⟩
        have b89 : Below w8.heap.size w8 w9 := by rw [hw2]; exact World.below_ext _ _
        have n9 := (World.cell?_of_block (b89.block nk hnk8)).trans n0
        have hnk9 := Nat.lt_of_lt_of_le hnk8 b89.size
        have h29 := H28.out.trans (b89.mono H28.out.size)
        have HC9 := hid (HC8.out.below b89)
        clear hw2 r0 r1 r2 hrl d0 hd8 n0 hnk8 h08 b89
        have r0 : (w9).cell? ⟨rb, 0, none⟩ = some (.int .i64 (q.r)) := (HR2.out.below h29).is 0 (by omega)
        have r1 : (w9).cell? ⟨rb, 1, none⟩ = some (.int .i64 (q.s)) := (HR2.out.below h29).is 1 (by omega)
        have r2 : (w9).cell? ⟨rb, 2, none⟩ = some (.int .i64 (q.t)) := (HR2.out.below h29).is 2 (by omega)
        have hrl := (HR2.out.below h29).lt
        rw [HSN.out] at r1
        clear h29
        go_wp2_with (first | (go_at_call 72; refine hold ?_))
        unfold Hid
        refine calls_nm fun w10 hw10 => ?_
        have hC10 : CK w3 w10 tb T := HC9.out.below (by rw [hw10]; (repeat (first | with_reducible exact Below.rf _ | with_reducible exact World.below_ext _ _ | with_reducible refine Below.ex ?_ _ | with_reducible refine Below.al ?_ _ | with_reducible refine Below.setCell ?_ (by simp) _ | with_reducible refine Below.drew ?_)))
        clear hw10 r0 r1 r2 hrl HC9
        refine (hC10.res HHH.out q.r pz (q.t - 1) (by unfold I64; omega) HPV.out (by unfold I64; omega)).mono ?_
        rintro e w11 ⟨⟨cg, rfl⟩, hC11⟩
        have h2y := H23.out.trans (hC11.bl.mono H23.out.size)
        have r0 : (w11).cell? ⟨rb, 0, none⟩ = some (.int .i64 (q.r)) := (HR2.out.below h2y).is 0 (by omega)
        have r1 : (w11).cell? ⟨rb, 1, none⟩ = some (.int .i64 (q.s)) := (HR2.out.below h2y).is 1 (by omega)
        have r2 : (w11).cell? ⟨rb, 2, none⟩ = some (.int .i64 (q.t)) := (HR2.out.below h2y).is 2 (by omega)
        have hrl := (HR2.out.below h2y).lt
        rw [HSN.out] at r1
        have HC11 := hid hC11
        clear hC10 hC11 h2y
        go_wp2_with (first | (go_at_call 51; refine hold ?_))
        unfold Hid
        refine calls_nm fun w12 hw12 => ?_
        have b12 : Below w11.heap.size w11 w12 := by rw [hw12]; (repeat (first | with_reducible exact Below.rf _ | with_reducible exact World.below_ext _ _ | with_reducible refine Below.ex ?_ _ | with_reducible refine Below.al ?_ _ | with_reducible refine Below.setCell ?_ (by simp) _ | with_reducible refine Below.drew ?_))
        have k0 : w12.cell? ⟨w11.heap.size, 0, none⟩ = some (.int .i64 (sn)) := by rw [hw12]; simp [go_sem, ↓IntWalk.iteOmega]
        have k1 : w12.cell? ⟨w11.heap.size, 1, none⟩ = some (.int .i64 (pz)) := by rw [hw12]; simp [go_sem, ↓IntWalk.iteOmega]
        have k2 : w11.heap.size < w12.heap.size := by rw [hw12]; (simp <;> omega)
        clear hw12
        refine (HC11.out.path b12 HHH.out ot (q.t - 1) (by unfold I64; omega) (by unfold I64; omega) w11.heap.size (Nat.le_refl _) k2 sn pz (by unfold I64; omega) HPV.out k0 k1).mono ?_
        rintro e w13 ⟨⟨cg1, cg2, rfl⟩, hC13⟩
        have HC13 := hid hC13
        clear hC13 b12 k0 k1 k2 r0 r1 r2 hrl
        go_wp2_with (first | (at_builtin; refine hold ?_))
        unfold Hid
        refine wpl_nm fun w20 hw20 => ?_
        have b20 : Below w13.heap.size w13 w20 := by rw [hw20]; (repeat (first | with_reducible exact Below.rf _ | with_reducible exact World.below_ext _ _ | with_reducible refine Below.ex ?_ _ | with_reducible refine Below.al ?_ _ | with_reducible refine Below.setCell ?_ (by simp) _ | with_reducible refine Below.drew ?_))
        have n20 : w20.cell? ⟨w13.heap.size, 0, none⟩ = some (.pointer (some ⟨tb, 0, none⟩)) := by rw [hw20]; simp [go_sem, ↓IntWalk.iteOmega]
        clear hw20
        refine wpl_cp rfl _ _ 80 26 (.pointer none) 8 rfl Try.underlying80 (by kernel_rfl) rfl HO.out HB3.out ((HC13.out).below b20) rfl (by omega) (by omega) _ rfl n20 ?_
        intro v21 w21 hO21
        have HO21 := hid hO21
        clear hO21 n20 b20
        go_wp2
        go_roundw
        case rel => exact ⟨ix, 4, rfl, by first | rfl | go_num, by omega, by omega, HO21.out⟩
        case measure => (simp [intOf] <;> omega)
        --END 3
    · have dk : decide ((k : Int) < 4) = false := by simp; omega
      have dkn : decide (k < 4) = false := by simp; omega
      obtain rfl : k = 4 := by omega
      go_wp2
      go_ret
      exact ⟨_, rfl, HO.out.low HB2.out⟩
end Go.Proofs.Qxb6500716a
