/-
  Step: Estimate.
-/
import Derived.Test.Qxb6500716aMd
import Derived.Test.Qxb6500716aEe
import Derived.Test.Qxb6500716aDh
import Derived.Test.Qxb6500716aDf
namespace Go.Proofs.Qxb6500716a
open Go.RowKit Go.Maps
set_option linter.unusedSimpArgs false
set_option linter.unusedVariables false
set_option maxRecDepth 20000
set_option maxHeartbeats 4000000
set_option maxHeartbeats 8000000 in
theorem st_est (mb : Nat) (fv tv : Value) (o : Opr) (v : Value) (lab : Nat → Nat) (w : World) (X : MW) (h : MdAt w lab mb fv tv (some X)) (hv : Ints w lab v o.l) (hO : OpI o) (hE : FEx X.F) (hK : o.K = 7) :
    Calls Try.prog 13 #[.pointer (some ⟨mb, 0, none⟩), .agg #[.int .i64 ((o).K), .int .i64 ((o).A), .int .i64 ((o).B), .int .i64 ((o).C), .int .i64 ((o).D), .int .i64 ((o).E), v]] w (stPost lab mb (some X, estAns X.F o) w) := by
  obtain ⟨vo, vc, hvv, -⟩ := hv.ex
  have HV := hid hv
  have HD := hid h
  have hdl := h.b.lt
  have hol := hO.l
  have hoA := hO.A
  have hoB := hO.B
  have hoC := hO.C
  clear hO
  obtain ⟨fb0, _, f0, -⟩ := h.wd
  have e0 : w.cell? ⟨mb, 0, none⟩ = some (.pointer (some ⟨fb0, 0, none⟩)) := by
    rw [h.b.is 0 (by omega)]
    show some fv = _
    rw [f0]
  obtain ⟨K, A, B, C, Dd, E, l⟩ := o
  simp only at hK
  subst hK
  have RQ := hid (fun (lb : Nat → Nat) (w' : World) (hI : Ints w' lb v l) => goals_any ⟨7, A, B, C, Dd, E, l⟩ v lb w' hI hol)
  subst hvv
  simp only at *
  obtain ⟨ans, hans⟩ : ∃ y, estAns X.F ⟨7, A, B, C, Dd, E, l⟩ = y := ⟨_, rfl⟩
  rw [hans]
  have HAN := hid hans
  obtain ⟨ln, hln⟩ : ∃ y, l.length = y := ⟨_, rfl⟩
  rw [hln] at HV RQ hol ⊢
  have HLN := hid hln
  unfold I64 at hoA hoB hoC
  clear h hv f0 hln hans
  go_enter Try.func13, Try.ntmps13
  go_wp2_with (first | (go_at_call 26; refine hold ?_))
  unfold Hid
  refine calls_nm fun w1 hw1 => ?_
  obtain ⟨l1, hS1⟩ := st_start (o := ⟨7, A, B, C, Dd, E, l⟩) HD.out HV.out (.int .u8 0) (.slice none 0 0) w1 hw1
  clear hw1 e0
  obtain ⟨l2, hl1, hl2⟩ : ∃ y : Nat → Nat, (∀ k, k < w1.heap.size → y k = l1 k) ∧ ∀ k, w1.heap.size ≤ k → y k = 0 := ⟨fun b => if b < w1.heap.size then l1 b else 0, fun k hk => if_pos hk, fun k hk => if_neg (by omega)⟩
  refine (RQ.out l1 w1 hS1.iv).mono ?_
  rintro e w2 ⟨hb2, hr2⟩
  have S2 := (hS1.relab hl1).below hb2
  have HS2 := hid S2
  obtain ⟨fb, M, f1, f2, hF, hT⟩ := S2.a.wd
  have e0 : w2.cell? ⟨mb, 0, none⟩ = some (.pointer (some ⟨fb, 0, none⟩)) := by
    rw [S2.a.b.is 0 (by omega)]
    show some fv = _
    rw [f1]
  have e1 : w2.cell? ⟨mb, 1, none⟩ = some (.pointer (some ⟨M.t, 0, none⟩)) := by
    rw [S2.a.b.is 1 (by omega)]
    show some tv = _
    rw [f2]
  have hml := S2.a.b.lt
  have hm2 : MoAt w2 mb fb M.t := ⟨e0, e1, hml⟩
  have hmB : Blk w2 mb 2 (fc (.pointer (some ⟨fb, 0, none⟩)) tv undef undef) := by rw [← f1]; exact S2.a.b
  have HOKF : Hid (FOk X.F) := hF.ok
  have hnb6 := hF.ok.nb
  have hfn := hF.ok.n
  obtain ⟨nb, hnb⟩ : ∃ y, X.F.bays.length = y := ⟨_, rfl⟩
  obtain ⟨bv, hbv⟩ : ∃ y, X.F.valid B = y := ⟨_, rfl⟩
  have RB : Hid (∀ w', Below w2.heap.size w2 w' → Calls Try.prog 23 #[.pointer (some ⟨fb, 0, none⟩)] w' fun e w'' => e = .returned (.int .i64 (nb)) ∧ w'' = w') := fun w' h => by
    rw [← hnb]
    exact robots_any fb X.F l2 w' (hF.below h)
  have VD : Hid (∀ w', Below w2.heap.size w2 w' → Calls Try.prog 53 #[.pointer (some ⟨fb, 0, none⟩), .int .i64 (B)] w' fun e w'' => e = .returned (.bool bv) ∧ w'' = w') := fun w' h => by
    rw [← hbv]
    exact valid_any fb X.F l2 B w' (hF.below h)
  rw [hnb] at hnb6
  obtain ⟨a0, a1, q3⟩ := HS2.out.bq
  have k0 : w2.cell? ⟨w.heap.size + 1, 0, none⟩ = some a0 := q3.is 0 (by omega)
  have k1 : w2.cell? ⟨w.heap.size + 1, 1, none⟩ = some a1 := q3.is 1 (by omega)
  have kz0 := q3.fz 0 (by omega)
  have kz1 := q3.fz 1 (by omega)
  have kl := q3.lt
  have x1 : w2.cell? ⟨w.heap.size, 1, none⟩ = some (.int .i64 (A)) := HS2.out.bx.is 1 (by omega)
  have x2 : w2.cell? ⟨w.heap.size, 2, none⟩ = some (.int .i64 (B)) := HS2.out.bx.is 2 (by omega)
  have x3 : w2.cell? ⟨w.heap.size, 3, none⟩ = some (.int .i64 (C)) := HS2.out.bx.is 3 (by omega)
  have hxl := HS2.out.bx.lt
  clear q3
  clear S2 hS1 RQ e1
  by_cases hodd : ln % 2 = 1
  · rw [if_pos (show l.length % 2 = 1 by rw [HLN.out]; exact hodd)] at hr2
    subst hr2
    have HA : Hid (ans = (2, [])) := by
      unfold Hid
      rw [← HAN.out]
      unfold estAns
      rw [if_pos (show l.length % 2 = 1 by rw [HLN.out]; exact hodd)]
    have SD : Hid True := trivial
    clear hb2 hF hT f1 f2 hm2 hmB hl1 hl2 hodd HOKF hbv hnb
    --BEGIN 1
    go_wp2
    first | with_reducible refine wp_region_ext2 (by kernel_rfl) (by kernel_rfl) ?_ | refine wp_region_ext (by kernel_rfl) (by kernel_rfl) ?_
    repeat (go_big_quiet_step ((first | (go_at_call 23; exact Calls.ext_of_same (RB.out _ (by (repeat (first | with_reducible exact Below.rf _ | with_reducible exact World.below_ext _ _ | with_reducible refine Below.ex ?_ _ | with_reducible refine Below.al ?_ _ | with_reducible refine Below.setCell ?_ (by simp) _ | with_reducible refine Below.drew ?_))))) | (go_at_call 56; with_reducible exact Calls.ext_of (SD.out _ (by (repeat (first | with_reducible exact Below.rf _ | with_reducible exact World.below_ext _ _ | with_reducible refine Below.ex ?_ _ | with_reducible refine Below.al ?_ _ | with_reducible refine Below.setCell ?_ (by simp) _ | with_reducible refine Below.drew ?_))))) | (go_at_call 53; exact Calls.ext_of_same (VD.out _ (by (repeat (first | with_reducible exact Below.rf _ | with_reducible exact World.below_ext _ _ | with_reducible refine Below.ex ?_ _ | with_reducible refine Below.al ?_ _ | with_reducible refine Below.setCell ?_ (by simp) _ | with_reducible refine Below.drew ?_))))))))
    refine wpQuiet_nil ?_
    rintro w3 ⟨z, hw2⟩
    have HS3 : Hid (MoS lab w mb ⟨7, A, B, C, Dd, E, l⟩ (.slice vo ln vc) w3 l2 fv tv (some X)) := HS2.out.below (by rw [hw2]; exact World.below_ext _ _)
    clear hw2 k0 k1 kz0 kz1 kl x1 x2 x3 hxl
    obtain ⟨a0, a1, q3⟩ := HS3.out.bq
    have k0 : w3.cell? ⟨w.heap.size + 1, 0, none⟩ = some a0 := q3.is 0 (by omega)
    have k1 : w3.cell? ⟨w.heap.size + 1, 1, none⟩ = some a1 := q3.is 1 (by omega)
    have kz0 := q3.fz 0 (by omega)
    have kz1 := q3.fz 1 (by omega)
    have kl := q3.lt
    have x1 : w3.cell? ⟨w.heap.size, 1, none⟩ = some (.int .i64 (A)) := HS3.out.bx.is 1 (by omega)
    have x2 : w3.cell? ⟨w.heap.size, 2, none⟩ = some (.int .i64 (B)) := HS3.out.bx.is 2 (by omega)
    have x3 : w3.cell? ⟨w.heap.size, 3, none⟩ = some (.int .i64 (C)) := HS3.out.bx.is 3 (by omega)
    have hxl := HS3.out.bx.lt
    clear q3
    go_wp2
    refine bodyPost_ret (v := .agg #[.int .u8 2, .slice none 0 0]) (by simp [results, Try.results13, go_sem, ↓IntWalk.iteOmega, k0, k1]) rfl ?_
    rw [HA.out]
    exact st_fin HS3.out hdl 2 _ [] (Ints.nil _ _)
    --END 1
  rw [if_neg (show ¬ l.length % 2 = 1 by rw [HLN.out]; exact hodd)] at hr2
  obtain ⟨gv, hr2, hG2⟩ := hr2
  subst hr2
  have hG := hG2 l2 hl2
  obtain ⟨go, gc, hgx, -⟩ := hG.ex
  obtain ⟨gn, hgn⟩ : ∃ y, (gls l).length = y := ⟨_, rfl⟩
  have hgl := hG.len
  rw [hgn] at hgx hgl
  subst hgx
  obtain ⟨sd, hsd⟩ : ∃ y, gokS X.F (gls l) = y := ⟨_, rfl⟩
  have SD : Hid (∀ w', Below w2.heap.size w2 w' → Calls Try.prog 56 #[.pointer (some ⟨mb, 0, none⟩), .slice go gn gc] w' fun e w'' => e = .returned (.bool sd) ∧ ∃ z, w'' = w'.ext z) := fun w' h => by
    rw [← hsd]
    exact sound_any mb fb M.t X.F l2 (.slice go gn gc) (gls l) w' (hF.below h) (hm2.below h) (hG.below h)
  have hand : estAns X.F ⟨7, A, B, C, Dd, E, l⟩ = if (X.F.park A).2 = false then (2, []) else if X.F.gcode (gls l) ≠ 0 then (2, []) else if X.F.valid B = false then (2, []) else if C < 0 ∨ ((gls l).length : Int) + 1 ≤ C then (2, []) else (0, [(X.F.est (X.F.park A).1 (gls l) B.toNat C.toNat : Int)]) := by
    unfold estAns
    rw [if_neg (show ¬ l.length % 2 = 1 by rw [HLN.out]; exact hodd)]
  have hpk : (X.F.park A).2 = decide (0 ≤ A ∧ A < (nb : Int)) := by
    unfold FS.park
    rw [hnb]
    by_cases hx : 0 ≤ A ∧ A < (nb : Int)
    · rw [if_pos hx]; simp [hx]
    · rw [if_neg hx]; simp only [hx, decide_false]
  have hgk : X.F.gcode (gls l) = 0 ↔ sd = true := by
    rw [gcode_ok, ← hsd]
    exact (gokS_iff X.F (gls l)).symm
  rw [HAN.out, hpk, hbv, hgn] at hand
  have HND := hid hand
  have HGK := hid hgk
  clear hodd hand hpk hgk
  by_cases c1 : A < 0
  · have HA : Hid (ans = (2, [])) := by unfold Hid; rw [HND.out, if_pos (by simp; omega)]
    have d1 : decide (A < 0) = true := by simp [c1]
    clear hb2 hF hT f1 f2 hm2 hmB hl1 hl2 HOKF hbv hnb hG hG2 hsd hgn
    --BEGIN 2
    go_wp2
    first | with_reducible refine wp_region_ext2 (by kernel_rfl) (by kernel_rfl) ?_ | refine wp_region_ext (by kernel_rfl) (by kernel_rfl) ?_
    repeat (go_big_quiet_step ((first | (go_at_call 23; exact Calls.ext_of_same (RB.out _ (by (repeat (first | with_reducible exact Below.rf _ | with_reducible exact World.below_ext _ _ | with_reducible refine Below.ex ?_ _ | with_reducible refine Below.al ?_ _ | with_reducible refine Below.setCell ?_ (by simp) _ | with_reducible refine Below.drew ?_))))) | (go_at_call 56; with_reducible exact Calls.ext_of (SD.out _ (by (repeat (first | with_reducible exact Below.rf _ | with_reducible exact World.below_ext _ _ | with_reducible refine Below.ex ?_ _ | with_reducible refine Below.al ?_ _ | with_reducible refine Below.setCell ?_ (by simp) _ | with_reducible refine Below.drew ?_))))) | (go_at_call 53; exact Calls.ext_of_same (VD.out _ (by (repeat (first | with_reducible exact Below.rf _ | with_reducible exact World.below_ext _ _ | with_reducible refine Below.ex ?_ _ | with_reducible refine Below.al ?_ _ | with_reducible refine Below.setCell ?_ (by simp) _ | with_reducible refine Below.drew ?_))))))))
    refine wpQuiet_nil ?_
    rintro w3 ⟨z, hw2⟩
    have HS3 : Hid (MoS lab w mb ⟨7, A, B, C, Dd, E, l⟩ (.slice vo ln vc) w3 l2 fv tv (some X)) := HS2.out.below (by rw [hw2]; exact World.below_ext _ _)
    clear hw2 k0 k1 kz0 kz1 kl x1 x2 x3 hxl
    obtain ⟨a0, a1, q3⟩ := HS3.out.bq
    have k0 : w3.cell? ⟨w.heap.size + 1, 0, none⟩ = some a0 := q3.is 0 (by omega)
    have k1 : w3.cell? ⟨w.heap.size + 1, 1, none⟩ = some a1 := q3.is 1 (by omega)
    have kz0 := q3.fz 0 (by omega)
    have kz1 := q3.fz 1 (by omega)
    have kl := q3.lt
    have x1 : w3.cell? ⟨w.heap.size, 1, none⟩ = some (.int .i64 (A)) := HS3.out.bx.is 1 (by omega)
    have x2 : w3.cell? ⟨w.heap.size, 2, none⟩ = some (.int .i64 (B)) := HS3.out.bx.is 2 (by omega)
    have x3 : w3.cell? ⟨w.heap.size, 3, none⟩ = some (.int .i64 (C)) := HS3.out.bx.is 3 (by omega)
    have hxl := HS3.out.bx.lt
    clear q3
    go_wp2
    refine bodyPost_ret (v := .agg #[.int .u8 2, .slice none 0 0]) (by simp [results, Try.results13, go_sem, ↓IntWalk.iteOmega, k0, k1]) rfl ?_
    rw [HA.out]
    exact st_fin HS3.out hdl 2 _ [] (Ints.nil _ _)
    --END 2
  have d1 : decide (A < 0) = false := by simp; omega
  by_cases c2 : (nb : Int) ≤ A
  · have HA : Hid (ans = (2, [])) := by unfold Hid; rw [HND.out, if_pos (by simp; omega)]
    have d2 : decide ((nb : Int) ≤ A) = true := by simp [c2]
    clear hb2 hF hT f1 f2 hm2 hmB hl1 hl2 HOKF hbv hnb hG hG2 hsd hgn
    --BEGIN 3
    go_wp2
    first | with_reducible refine wp_region_ext2 (by kernel_rfl) (by kernel_rfl) ?_ | refine wp_region_ext (by kernel_rfl) (by kernel_rfl) ?_
    repeat (go_big_quiet_step ((first | (go_at_call 23; exact Calls.ext_of_same (RB.out _ (by (repeat (first | with_reducible exact Below.rf _ | with_reducible exact World.below_ext _ _ | with_reducible refine Below.ex ?_ _ | with_reducible refine Below.al ?_ _ | with_reducible refine Below.setCell ?_ (by simp) _ | with_reducible refine Below.drew ?_))))) | (go_at_call 56; with_reducible exact Calls.ext_of (SD.out _ (by (repeat (first | with_reducible exact Below.rf _ | with_reducible exact World.below_ext _ _ | with_reducible refine Below.ex ?_ _ | with_reducible refine Below.al ?_ _ | with_reducible refine Below.setCell ?_ (by simp) _ | with_reducible refine Below.drew ?_))))) | (go_at_call 53; exact Calls.ext_of_same (VD.out _ (by (repeat (first | with_reducible exact Below.rf _ | with_reducible exact World.below_ext _ _ | with_reducible refine Below.ex ?_ _ | with_reducible refine Below.al ?_ _ | with_reducible refine Below.setCell ?_ (by simp) _ | with_reducible refine Below.drew ?_))))))))
    refine wpQuiet_nil ?_
    rintro w3 ⟨z, hw2⟩
    have HS3 : Hid (MoS lab w mb ⟨7, A, B, C, Dd, E, l⟩ (.slice vo ln vc) w3 l2 fv tv (some X)) := HS2.out.below (by rw [hw2]; exact World.below_ext _ _)
    clear hw2 k0 k1 kz0 kz1 kl x1 x2 x3 hxl
    obtain ⟨a0, a1, q3⟩ := HS3.out.bq
    have k0 : w3.cell? ⟨w.heap.size + 1, 0, none⟩ = some a0 := q3.is 0 (by omega)
    have k1 : w3.cell? ⟨w.heap.size + 1, 1, none⟩ = some a1 := q3.is 1 (by omega)
    have kz0 := q3.fz 0 (by omega)
    have kz1 := q3.fz 1 (by omega)
    have kl := q3.lt
    have x1 : w3.cell? ⟨w.heap.size, 1, none⟩ = some (.int .i64 (A)) := HS3.out.bx.is 1 (by omega)
    have x2 : w3.cell? ⟨w.heap.size, 2, none⟩ = some (.int .i64 (B)) := HS3.out.bx.is 2 (by omega)
    have x3 : w3.cell? ⟨w.heap.size, 3, none⟩ = some (.int .i64 (C)) := HS3.out.bx.is 3 (by omega)
    have hxl := HS3.out.bx.lt
    clear q3
    go_wp2
    refine bodyPost_ret (v := .agg #[.int .u8 2, .slice none 0 0]) (by simp [results, Try.results13, go_sem, ↓IntWalk.iteOmega, k0, k1]) rfl ?_
    rw [HA.out]
    exact st_fin HS3.out hdl 2 _ [] (Ints.nil _ _)
    --END 3
  have d2 : decide ((nb : Int) ≤ A) = false := by simp; omega
  cases sd with
  | false =>
    have HA : Hid (ans = (2, [])) := by unfold Hid; rw [HND.out, if_neg (by simp; omega), if_pos (fun h => by have := HGK.out.1 h; cases this)]
    clear hb2 hF hT f1 f2 hm2 hmB hl1 hl2 HOKF hbv hnb hG hG2 hsd hgn
    --BEGIN 4
    go_wp2
    first | with_reducible refine wp_region_ext2 (by kernel_rfl) (by kernel_rfl) ?_ | refine wp_region_ext (by kernel_rfl) (by kernel_rfl) ?_
    repeat (go_big_quiet_step ((first | (go_at_call 23; exact Calls.ext_of_same (RB.out _ (by (repeat (first | with_reducible exact Below.rf _ | with_reducible exact World.below_ext _ _ | with_reducible refine Below.ex ?_ _ | with_reducible refine Below.al ?_ _ | with_reducible refine Below.setCell ?_ (by simp) _ | with_reducible refine Below.drew ?_))))) | (go_at_call 56; with_reducible exact Calls.ext_of (SD.out _ (by (repeat (first | with_reducible exact Below.rf _ | with_reducible exact World.below_ext _ _ | with_reducible refine Below.ex ?_ _ | with_reducible refine Below.al ?_ _ | with_reducible refine Below.setCell ?_ (by simp) _ | with_reducible refine Below.drew ?_))))) | (go_at_call 53; exact Calls.ext_of_same (VD.out _ (by (repeat (first | with_reducible exact Below.rf _ | with_reducible exact World.below_ext _ _ | with_reducible refine Below.ex ?_ _ | with_reducible refine Below.al ?_ _ | with_reducible refine Below.setCell ?_ (by simp) _ | with_reducible refine Below.drew ?_))))))))
    refine wpQuiet_nil ?_
    rintro w3 ⟨z, hw2⟩
    have HS3 : Hid (MoS lab w mb ⟨7, A, B, C, Dd, E, l⟩ (.slice vo ln vc) w3 l2 fv tv (some X)) := HS2.out.below (by rw [hw2]; exact World.below_ext _ _)
    clear hw2 k0 k1 kz0 kz1 kl x1 x2 x3 hxl
    obtain ⟨a0, a1, q3⟩ := HS3.out.bq
    have k0 : w3.cell? ⟨w.heap.size + 1, 0, none⟩ = some a0 := q3.is 0 (by omega)
    have k1 : w3.cell? ⟨w.heap.size + 1, 1, none⟩ = some a1 := q3.is 1 (by omega)
    have kz0 := q3.fz 0 (by omega)
    have kz1 := q3.fz 1 (by omega)
    have kl := q3.lt
    have x1 : w3.cell? ⟨w.heap.size, 1, none⟩ = some (.int .i64 (A)) := HS3.out.bx.is 1 (by omega)
    have x2 : w3.cell? ⟨w.heap.size, 2, none⟩ = some (.int .i64 (B)) := HS3.out.bx.is 2 (by omega)
    have x3 : w3.cell? ⟨w.heap.size, 3, none⟩ = some (.int .i64 (C)) := HS3.out.bx.is 3 (by omega)
    have hxl := HS3.out.bx.lt
    clear q3
    go_wp2
    refine bodyPost_ret (v := .agg #[.int .u8 2, .slice none 0 0]) (by simp [results, Try.results13, go_sem, ↓IntWalk.iteOmega, k0, k1]) rfl ?_
    rw [HA.out]
    exact st_fin HS3.out hdl 2 _ [] (Ints.nil _ _)
    --END 4
  | true =>
  cases bv with
  | false =>
    have HA : Hid (ans = (2, [])) := by unfold Hid; rw [HND.out, if_neg (by simp; omega), if_neg (fun h => h (HGK.out.2 rfl)), if_pos rfl]
    clear hb2 hF hT f1 f2 hm2 hmB hl1 hl2 HOKF hbv hnb hG hG2 hsd hgn
    --BEGIN 5
    go_wp2
    first | with_reducible refine wp_region_ext2 (by kernel_rfl) (by kernel_rfl) ?_ | refine wp_region_ext (by kernel_rfl) (by kernel_rfl) ?_
    repeat (go_big_quiet_step ((first | (go_at_call 23; exact Calls.ext_of_same (RB.out _ (by (repeat (first | with_reducible exact Below.rf _ | with_reducible exact World.below_ext _ _ | with_reducible refine Below.ex ?_ _ | with_reducible refine Below.al ?_ _ | with_reducible refine Below.setCell ?_ (by simp) _ | with_reducible refine Below.drew ?_))))) | (go_at_call 56; with_reducible exact Calls.ext_of (SD.out _ (by (repeat (first | with_reducible exact Below.rf _ | with_reducible exact World.below_ext _ _ | with_reducible refine Below.ex ?_ _ | with_reducible refine Below.al ?_ _ | with_reducible refine Below.setCell ?_ (by simp) _ | with_reducible refine Below.drew ?_))))) | (go_at_call 53; exact Calls.ext_of_same (VD.out _ (by (repeat (first | with_reducible exact Below.rf _ | with_reducible exact World.below_ext _ _ | with_reducible refine Below.ex ?_ _ | with_reducible refine Below.al ?_ _ | with_reducible refine Below.setCell ?_ (by simp) _ | with_reducible refine Below.drew ?_))))))))
    refine wpQuiet_nil ?_
    rintro w3 ⟨z, hw2⟩
    have HS3 : Hid (MoS lab w mb ⟨7, A, B, C, Dd, E, l⟩ (.slice vo ln vc) w3 l2 fv tv (some X)) := HS2.out.below (by rw [hw2]; exact World.below_ext _ _)
    clear hw2 k0 k1 kz0 kz1 kl x1 x2 x3 hxl
    obtain ⟨a0, a1, q3⟩ := HS3.out.bq
    have k0 : w3.cell? ⟨w.heap.size + 1, 0, none⟩ = some a0 := q3.is 0 (by omega)
    have k1 : w3.cell? ⟨w.heap.size + 1, 1, none⟩ = some a1 := q3.is 1 (by omega)
    have kz0 := q3.fz 0 (by omega)
    have kz1 := q3.fz 1 (by omega)
    have kl := q3.lt
    have x1 : w3.cell? ⟨w.heap.size, 1, none⟩ = some (.int .i64 (A)) := HS3.out.bx.is 1 (by omega)
    have x2 : w3.cell? ⟨w.heap.size, 2, none⟩ = some (.int .i64 (B)) := HS3.out.bx.is 2 (by omega)
    have x3 : w3.cell? ⟨w.heap.size, 3, none⟩ = some (.int .i64 (C)) := HS3.out.bx.is 3 (by omega)
    have hxl := HS3.out.bx.lt
    clear q3
    go_wp2
    refine bodyPost_ret (v := .agg #[.int .u8 2, .slice none 0 0]) (by simp [results, Try.results13, go_sem, ↓IntWalk.iteOmega, k0, k1]) rfl ?_
    rw [HA.out]
    exact st_fin HS3.out hdl 2 _ [] (Ints.nil _ _)
    --END 5
  | true =>
  by_cases c3 : C < 0
  · have HA : Hid (ans = (2, [])) := by unfold Hid; rw [HND.out, if_neg (by simp; omega), if_neg (fun h => h (HGK.out.2 rfl)), if_neg (by simp), if_pos (Or.inl c3)]
    have d3 : decide (C < 0) = true := by simp [c3]
    clear hb2 hF hT f1 f2 hm2 hmB hl1 hl2 HOKF hbv hnb hG hG2 hsd hgn
    --BEGIN 6
    go_wp2
    first | with_reducible refine wp_region_ext2 (by kernel_rfl) (by kernel_rfl) ?_ | refine wp_region_ext (by kernel_rfl) (by kernel_rfl) ?_
    repeat (go_big_quiet_step ((first | (go_at_call 23; exact Calls.ext_of_same (RB.out _ (by (repeat (first | with_reducible exact Below.rf _ | with_reducible exact World.below_ext _ _ | with_reducible refine Below.ex ?_ _ | with_reducible refine Below.al ?_ _ | with_reducible refine Below.setCell ?_ (by simp) _ | with_reducible refine Below.drew ?_))))) | (go_at_call 56; with_reducible exact Calls.ext_of (SD.out _ (by (repeat (first | with_reducible exact Below.rf _ | with_reducible exact World.below_ext _ _ | with_reducible refine Below.ex ?_ _ | with_reducible refine Below.al ?_ _ | with_reducible refine Below.setCell ?_ (by simp) _ | with_reducible refine Below.drew ?_))))) | (go_at_call 53; exact Calls.ext_of_same (VD.out _ (by (repeat (first | with_reducible exact Below.rf _ | with_reducible exact World.below_ext _ _ | with_reducible refine Below.ex ?_ _ | with_reducible refine Below.al ?_ _ | with_reducible refine Below.setCell ?_ (by simp) _ | with_reducible refine Below.drew ?_))))))))
    refine wpQuiet_nil ?_
    rintro w3 ⟨z, hw2⟩
    have HS3 : Hid (MoS lab w mb ⟨7, A, B, C, Dd, E, l⟩ (.slice vo ln vc) w3 l2 fv tv (some X)) := HS2.out.below (by rw [hw2]; exact World.below_ext _ _)
    clear hw2 k0 k1 kz0 kz1 kl x1 x2 x3 hxl
    obtain ⟨a0, a1, q3⟩ := HS3.out.bq
    have k0 : w3.cell? ⟨w.heap.size + 1, 0, none⟩ = some a0 := q3.is 0 (by omega)
    have k1 : w3.cell? ⟨w.heap.size + 1, 1, none⟩ = some a1 := q3.is 1 (by omega)
    have kz0 := q3.fz 0 (by omega)
    have kz1 := q3.fz 1 (by omega)
    have kl := q3.lt
    have x1 : w3.cell? ⟨w.heap.size, 1, none⟩ = some (.int .i64 (A)) := HS3.out.bx.is 1 (by omega)
    have x2 : w3.cell? ⟨w.heap.size, 2, none⟩ = some (.int .i64 (B)) := HS3.out.bx.is 2 (by omega)
    have x3 : w3.cell? ⟨w.heap.size, 3, none⟩ = some (.int .i64 (C)) := HS3.out.bx.is 3 (by omega)
    have hxl := HS3.out.bx.lt
    clear q3
    go_wp2
    refine bodyPost_ret (v := .agg #[.int .u8 2, .slice none 0 0]) (by simp [results, Try.results13, go_sem, ↓IntWalk.iteOmega, k0, k1]) rfl ?_
    rw [HA.out]
    exact st_fin HS3.out hdl 2 _ [] (Ints.nil _ _)
    --END 6
  have d3 : decide (C < 0) = false := by simp; omega
  by_cases c4 : (gn : Int) < C
  · have HA : Hid (ans = (2, [])) := by unfold Hid; rw [HND.out, if_neg (by simp; omega), if_neg (fun h => h (HGK.out.2 rfl)), if_neg (by simp), if_pos (Or.inr (by omega))]
    have d4 : decide ((gn : Int) < C) = true := by simp [c4]
    clear hb2 hF hT f1 f2 hm2 hmB hl1 hl2 HOKF hbv hnb hG hG2 hsd hgn
    --BEGIN 7
    go_wp2
    first | with_reducible refine wp_region_ext2 (by kernel_rfl) (by kernel_rfl) ?_ | refine wp_region_ext (by kernel_rfl) (by kernel_rfl) ?_
    repeat (go_big_quiet_step ((first | (go_at_call 23; exact Calls.ext_of_same (RB.out _ (by (repeat (first | with_reducible exact Below.rf _ | with_reducible exact World.below_ext _ _ | with_reducible refine Below.ex ?_ _ | with_reducible refine Below.al ?_ _ | with_reducible refine Below.setCell ?_ (by simp) _ | with_reducible refine Below.drew ?_))))) | (go_at_call 56; with_reducible exact Calls.ext_of (SD.out _ (by (repeat (first | with_reducible exact Below.rf _ | with_reducible exact World.below_ext _ _ | with_reducible refine Below.ex ?_ _ | with_reducible refine Below.al ?_ _ | with_reducible refine Below.setCell ?_ (by simp) _ | with_reducible refine Below.drew ?_))))) | (go_at_call 53; exact Calls.ext_of_same (VD.out _ (by (repeat (first | with_reducible exact Below.rf _ | with_reducible exact World.below_ext _ _ | with_reducible refine Below.ex ?_ _ | with_reducible refine Below.al ?_ _ | with_reducible refine Below.setCell ?_ (by simp) _ | with_reducible refine Below.drew ?_))))))))
    refine wpQuiet_nil ?_
    rintro w3 ⟨z, hw2⟩
    have HS3 : Hid (MoS lab w mb ⟨7, A, B, C, Dd, E, l⟩ (.slice vo ln vc) w3 l2 fv tv (some X)) := HS2.out.below (by rw [hw2]; exact World.below_ext _ _)
    clear hw2 k0 k1 kz0 kz1 kl x1 x2 x3 hxl
    obtain ⟨a0, a1, q3⟩ := HS3.out.bq
    have k0 : w3.cell? ⟨w.heap.size + 1, 0, none⟩ = some a0 := q3.is 0 (by omega)
    have k1 : w3.cell? ⟨w.heap.size + 1, 1, none⟩ = some a1 := q3.is 1 (by omega)
    have kz0 := q3.fz 0 (by omega)
    have kz1 := q3.fz 1 (by omega)
    have kl := q3.lt
    have x1 : w3.cell? ⟨w.heap.size, 1, none⟩ = some (.int .i64 (A)) := HS3.out.bx.is 1 (by omega)
    have x2 : w3.cell? ⟨w.heap.size, 2, none⟩ = some (.int .i64 (B)) := HS3.out.bx.is 2 (by omega)
    have x3 : w3.cell? ⟨w.heap.size, 3, none⟩ = some (.int .i64 (C)) := HS3.out.bx.is 3 (by omega)
    have hxl := HS3.out.bx.lt
    clear q3
    go_wp2
    refine bodyPost_ret (v := .agg #[.int .u8 2, .slice none 0 0]) (by simp [results, Try.results13, go_sem, ↓IntWalk.iteOmega, k0, k1]) rfl ?_
    rw [HA.out]
    exact st_fin HS3.out hdl 2 _ [] (Ints.nil _ _)
    --END 7
  have d4 : decide ((gn : Int) < C) = false := by simp; omega
  have hgok : X.F.gok (gls l) := (gokS_iff X.F (gls l)).1 hsd
  have hB2 : 0 ≤ B ∧ B < (X.F.n : Int) := FS.valid_iff.1 hbv
  have hby := park_in HOKF.out (r := A) (by rw [hnb]; omega)
  obtain ⟨es, hes⟩ : ∃ y, X.F.est (X.F.park A).1 (gls l) B.toNat C.toNat = y := ⟨_, rfl⟩
  have HA : Hid (ans = (0, [(es : Int)])) := by unfold Hid; rw [HND.out, if_neg (by simp; omega), if_neg (fun h => h (HGK.out.2 rfl)), if_neg (by simp), if_neg (by omega), hes]
  obtain ⟨n, hn⟩ : ∃ y, X.F.n = y := ⟨_, rfl⟩
  obtain ⟨bn, hbn⟩ : ∃ y : Nat, B = y := ⟨B.toNat, by omega⟩
  obtain ⟨cn, hcn⟩ : ∃ y : Nat, C = y := ⟨C.toNat, by omega⟩
  have hesb : es ≤ 1073741824 := by
    rw [← hes]
    have := est_bd HOKF.out (bay := (X.F.park A).1) hgok B.toNat C.toNat
    omega
  have RM : Hid (∀ w', Below w2.heap.size w2 w' → Calls Try.prog 28 #[.pointer (some ⟨mb, 0, none⟩), .int .i64 (A), .slice go gn gc] w' fun e w'' => ∃ LB rbn, e = .returned (.slice (some ⟨LB, 0, none⟩) (gn + 1) (gn + 1)) ∧ Below w'.heap.size w' w'' ∧ w''.cell? ⟨LB, cn, none⟩ = some (.slice (some ⟨rbn, 0, none⟩) n n) ∧ w''.cell? ⟨rbn, bn, none⟩ = some (.int .i64 ((es : Int))) ∧ LB < w''.heap.size ∧ rbn < w''.heap.size) := fun w' h => by
    refine (remain_ex mb fb X.F tv l2 A (.slice go gn gc) (gls l) w' (hF.below h) (hmB.below h) (hG.below h) hgok hby).mono ?_
    rintro e w'' ⟨LB, rbf, L, rfl, hR, hL, hZ, hFx⟩
    rw [hgn, hn] at hR
    have hcc : cn < gn + 1 := by omega
    have h1 := hR.lb.is cn hcc
    rw [if_pos hcc] at h1
    have h2 := (hR.row cn hcc).is bn (by omega)
    have h3 : L cn bn = es := by
      have g1 := fix_est HOKF.out hE hgok hby hZ hFx (gn - cn) cn (by omega) bn (by omega)
      have g2 := hL.lo cn bn (by omega) (by omega)
      rw [show B.toNat = bn by omega, show C.toNat = cn by omega] at hes
      omega
    rw [h3] at h2
    exact ⟨LB, rbf cn, by rw [hgn], hR.k, h1, h2, hR.lb.lt, (hR.row cn hcc).lt⟩
  have HES : Hid (I64 (es : Int)) := by unfold Hid I64; omega
  have hbnl : bn < n := by omega
  have hcnl : cn < gn + 1 := by omega
  subst hbn hcn
  clear hb2 hF hT f1 f2 hm2 hmB hl1 hl2 HOKF hbv hnb hG hG2 hsd hgn hes hgok hB2 hby hn hoB hoC c3 c4 HND HGK hE
  --BEGIN 8
  go_wp2
  first | with_reducible refine wp_region_ext2 (by kernel_rfl) (by kernel_rfl) ?_ | refine wp_region_ext (by kernel_rfl) (by kernel_rfl) ?_
  repeat (go_big_quiet_step ((first | (go_at_call 23; exact Calls.ext_of_same (RB.out _ (by (repeat (first | with_reducible exact Below.rf _ | with_reducible exact World.below_ext _ _ | with_reducible refine Below.ex ?_ _ | with_reducible refine Below.al ?_ _ | with_reducible refine Below.setCell ?_ (by simp) _ | with_reducible refine Below.drew ?_))))) | (go_at_call 56; with_reducible exact Calls.ext_of (SD.out _ (by (repeat (first | with_reducible exact Below.rf _ | with_reducible exact World.below_ext _ _ | with_reducible refine Below.ex ?_ _ | with_reducible refine Below.al ?_ _ | with_reducible refine Below.setCell ?_ (by simp) _ | with_reducible refine Below.drew ?_))))) | (go_at_call 53; exact Calls.ext_of_same (VD.out _ (by (repeat (first | with_reducible exact Below.rf _ | with_reducible exact World.below_ext _ _ | with_reducible refine Below.ex ?_ _ | with_reducible refine Below.al ?_ _ | with_reducible refine Below.setCell ?_ (by simp) _ | with_reducible refine Below.drew ?_))))))))
  refine wpQuiet_nil ?_
  rintro w3 ⟨z, hw2⟩
  have b3 : Below w2.heap.size w2 w3 := by rw [hw2]; exact World.below_ext _ _
  have HS3 := hid (HS2.out.below b3)
  have RM3 : Hid (∀ w', Below w3.heap.size w3 w' → Calls Try.prog 28 #[.pointer (some ⟨mb, 0, none⟩), .int .i64 (A), .slice go gn gc] w' fun e w'' => ∃ LB rbn, e = .returned (.slice (some ⟨LB, 0, none⟩) (gn + 1) (gn + 1)) ∧ Below w'.heap.size w' w'' ∧ w''.cell? ⟨LB, cn, none⟩ = some (.slice (some ⟨rbn, 0, none⟩) n n) ∧ w''.cell? ⟨rbn, bn, none⟩ = some (.int .i64 ((es : Int))) ∧ LB < w''.heap.size ∧ rbn < w''.heap.size) := fun w' h => RM.out w' (b3.trans (h.mono b3.size))
  clear hw2 k0 k1 kz0 kz1 kl x1 x2 x3 hxl b3 RM e0 hml
  obtain ⟨a0, a1, q3⟩ := HS3.out.bq
  have x1 : w3.cell? ⟨w.heap.size, 1, none⟩ = some (.int .i64 (A)) := HS3.out.bx.is 1 (by omega)
  have x2 : w3.cell? ⟨w.heap.size, 2, none⟩ = some (.int .i64 ((bn : Int))) := HS3.out.bx.is 2 (by omega)
  have x3 : w3.cell? ⟨w.heap.size, 3, none⟩ = some (.int .i64 ((cn : Int))) := HS3.out.bx.is 3 (by omega)
  have hxl := HS3.out.bx.lt
  have k0 : w3.cell? ⟨w.heap.size + 1, 0, none⟩ = some a0 := q3.is 0 (by omega)
  have k1 : w3.cell? ⟨w.heap.size + 1, 1, none⟩ = some a1 := q3.is 1 (by omega)
  have kz0 := q3.fz 0 (by omega)
  have kz1 := q3.fz 1 (by omega)
  have kl := q3.lt
  have fz1 : (0 : Int) ≤ (cn : Int) := by omega
  have fz2 : (cn : Int) < (gn : Int) + 1 := by omega
  have fz3 : (0 : Int) ≤ (bn : Int) := by omega
  have fz4 : (bn : Int) < (n : Int) := by omega
  have dcn : decide (cn < gn + 1) = true := by simp; omega
  have dbn : decide (bn < n) = true := by simp; omega
  have SX : Hid (∀ w', Below w3.heap.size w3 w' → w'.cell? ⟨w.heap.size, 1, none⟩ = some (.int .i64 (A)) ∧ w'.cell? ⟨w.heap.size, 2, none⟩ = some (.int .i64 ((bn : Int))) ∧ w'.cell? ⟨w.heap.size, 3, none⟩ = some (.int .i64 ((cn : Int)))) := fun w' h => ⟨(World.cell?_of_block (h.block _ hxl)).trans x1, (World.cell?_of_block (h.block _ hxl)).trans x2, (World.cell?_of_block (h.block _ hxl)).trans x3⟩
  go_wp2
  refine wp_region_tree 15 (fun w' => w'.cell? ⟨w.heap.size, 1, none⟩ = some (.int .i64 (A)) ∧ w'.cell? ⟨w.heap.size, 2, none⟩ = some (.int .i64 ((bn : Int))) ∧ w'.cell? ⟨w.heap.size, 3, none⟩ = some (.int .i64 ((cn : Int)))) (.q 0 false (.q 1 false (.q 2 true (.q 3 false (.q 5 false (.q 6 true (.q 9 false (.q 10 true (.one 4 true (.q 7 false (.one 8 true (.q 11 false (.one 12 true (.one 13 true (.one 14 true (.one 15 false .nil)))))))))))))))) (by kernel_rfl) (by kernel_rfl) (by kernel_rfl) ?_ ?_
  · simp [go_sem, ↓IntWalk.iteOmega, *]
  repeat (first | (refine wpTr_qf (v := ?_) rfl rfl ?_ ?_; rotate_left; focus (intro w; go_simp; (try (with_reducible rfl)); done); try simp only [List.getElem_toArray, List.getElem_cons_zero, List.getElem_cons_succ, Act.put, List.setIfInBounds_toArray, List.set_cons_zero, List.set_cons_succ]) | (refine wpTr_qt (v := ?_) rfl rfl ?_ ?_; rotate_left; focus (intro w hSw; (try dsimp only at hSw); go_simp; (try (with_reducible rfl)); done); try simp only [List.getElem_toArray, List.getElem_cons_zero, List.getElem_cons_succ, Act.put, List.setIfInBounds_toArray, List.set_cons_zero, List.set_cons_succ]))
  refine wpTr_one rfl rfl (fun K hK => ?_)
  go_simp
  go_at_call 28
  refine (RM3.out _ (by (repeat (first | with_reducible exact Below.rf _ | with_reducible exact World.below_ext _ _ | with_reducible refine Below.ex ?_ _ | with_reducible refine Below.al ?_ _ | with_reducible refine Below.setCell ?_ (by simp) _ | with_reducible refine Below.drew ?_)))).mono ?_
  rintro e w5 ⟨LB, rbn, rfl, hb5, hc5, hd5, hl5, hr5⟩
  have b33 : Below w3.heap.size w3 w3.drew := by (repeat (first | with_reducible exact Below.rf _ | with_reducible exact World.below_ext _ _ | with_reducible refine Below.ex ?_ _ | with_reducible refine Below.al ?_ _ | with_reducible refine Below.setCell ?_ (by simp) _ | with_reducible refine Below.drew ?_))
  have b35 : Below w3.heap.size w3 w5 := b33.trans (hb5.mono b33.size)
  have s5 := SX.out w5 b35
  refine hK.out _ _ (fun _ => s5) ?_
  clear hK K
  have HS5 := hid (HS3.out.below b35)
  have HSX5 : Hid (∀ w', Below w5.heap.size w5 w' → w'.cell? ⟨w.heap.size, 1, none⟩ = some (.int .i64 (A)) ∧ w'.cell? ⟨w.heap.size, 2, none⟩ = some (.int .i64 ((bn : Int))) ∧ w'.cell? ⟨w.heap.size, 3, none⟩ = some (.int .i64 ((cn : Int)))) := fun w' h => SX.out w' (b35.trans (h.mono b35.size))
  clear x1 x2 x3 k0 k1 kz0 kz1 kl hb5 b35 q3
  obtain ⟨a2, a3, q5⟩ := HS5.out.bq
  have j0 : w5.cell? ⟨w.heap.size + 1, 0, none⟩ = some a2 := q5.is 0 (by omega)
  have j1 : w5.cell? ⟨w.heap.size + 1, 1, none⟩ = some a3 := q5.is 1 (by omega)
  have jz0 := q5.fz 0 (by omega)
  have jz1 := q5.fz 1 (by omega)
  have jl := q5.lt
  obtain ⟨x1, x2, x3⟩ := s5
  have hxl5 := HS5.out.bx.lt
  repeat (first | (refine wpTr_qf (v := ?_) rfl rfl ?_ ?_; rotate_left; focus (intro w; go_simp; (try (with_reducible rfl)); done); try simp only [List.getElem_toArray, List.getElem_cons_zero, List.getElem_cons_succ, Act.put, List.setIfInBounds_toArray, List.set_cons_zero, List.set_cons_succ]) | (refine wpTr_qt (v := ?_) rfl rfl ?_ ?_; rotate_left; focus (intro w hSw; (try dsimp only at hSw); go_simp; (try (with_reducible rfl)); done); try simp only [List.getElem_toArray, List.getElem_cons_zero, List.getElem_cons_succ, Act.put, List.setIfInBounds_toArray, List.set_cons_zero, List.set_cons_succ]))
  refine wpTr_one rfl rfl (fun K hK => ?_)
  go_simp
  refine hK.out _ _ (fun _ => by simp [go_sem, ↓IntWalk.iteOmega, *]) ?_
  clear hK K
  repeat (first | (refine wpTr_qf (v := ?_) rfl rfl ?_ ?_; rotate_left; focus (intro w; go_simp; (try (with_reducible rfl)); done); try simp only [List.getElem_toArray, List.getElem_cons_zero, List.getElem_cons_succ, Act.put, List.setIfInBounds_toArray, List.set_cons_zero, List.set_cons_succ]) | (refine wpTr_qt (v := ?_) rfl rfl ?_ ?_; rotate_left; focus (intro w hSw; (try dsimp only at hSw); go_simp; (try (with_reducible rfl)); done); try simp only [List.getElem_toArray, List.getElem_cons_zero, List.getElem_cons_succ, Act.put, List.setIfInBounds_toArray, List.set_cons_zero, List.set_cons_succ]))
  refine wpTr_one rfl rfl (fun K hK => ?_)
  go_simp
  refine hK.out _ _ (fun _ => by simp [go_sem, ↓IntWalk.iteOmega, *]) ?_
  clear hK K
  refine wpTr_one rfl rfl (fun K hK => ?_)
  go_simp
  refine hK.out _ _ (fun _ => by simp [go_sem, ↓IntWalk.iteOmega, *]) ?_
  clear hK K
  refine wpTr_one rfl rfl (fun K hK => ?_)
  go_simp
  go_at_call 54
  refine (ok54_any _ _ _ _).mono ?_
  rintro e w6 ⟨rfl, z6, rfl⟩
  refine hK.out _ _ (fun _ => HSX5.out _ (by (repeat (first | with_reducible exact Below.rf _ | with_reducible exact World.below_ext _ _ | with_reducible refine Below.ex ?_ _ | with_reducible refine Below.al ?_ _ | with_reducible refine Below.setCell ?_ (by simp) _ | with_reducible refine Below.drew ?_)))) ?_
  clear hK K
  refine wpTr_one rfl rfl (fun K hK => ?_)
  go_simp
  refine hK.out _ _ (fun h => by cases h) ?_
  clear hK K
  refine wpTr_nil ?_
  refine NoPanic.normal ?_
  have hud : ∀ j, j < w5.heap.size → upd l2 w5.heap.size 0 j = l2 j := fun j hj => upd_ne _ _ (by omega)
  have S6 := hid (((HS5.out.relab hud).below (w' := w5.alloc (Obj.cells #[.int .i64 ((es : Int))] 3)) (by (repeat (first | with_reducible exact Below.rf _ | with_reducible exact World.below_ext _ _ | with_reducible refine Below.ex ?_ _ | with_reducible refine Below.al ?_ _ | with_reducible refine Below.setCell ?_ (by simp) _ | with_reducible refine Below.drew ?_)))).below (World.below_ext _ z6))
  have I6 : Hid (Ints ((w5.alloc (Obj.cells #[.int .i64 ((es : Int))] 3)).ext z6) (upd l2 w5.heap.size 0) (.slice (some ⟨w5.heap.size, 0, none⟩) 1 1) [(es : Int)]) := (ints1 _ HES.out).keptL (A := fun _ => False) (KeptL.of_below (World.below_ext _ z6)) (fun _ h => h.elim)
  go_wp2
  refine bodyPost_ret (v := .agg #[.int .u8 0, .slice (some ⟨w5.heap.size, 0, none⟩) 1 1]) (by simp [results, Try.results13, go_sem, ↓IntWalk.iteOmega, j0, j1]) rfl ?_
  rw [HA.out]
  have hwe : ((((w5.alloc (Obj.cells #[.int .i64 ((es : Int))] 3)).ext z6).setCell ⟨w.heap.size + 1, 0, none⟩ (.int .u8 0)).setCell ⟨w.heap.size + 1, 1, none⟩ (.slice (some ⟨w5.heap.size, 0, none⟩) 1 1)) = (((w5.setCell ⟨w.heap.size + 1, 0, none⟩ (.int .u8 0)).setCell ⟨w.heap.size + 1, 1, none⟩ (.slice (some ⟨w5.heap.size, 0, none⟩) 1 1)).alloc (Obj.cells #[.int .i64 ((es : Int))] 3)).ext z6 := by simp [go_sem, ↓IntWalk.iteOmega, jl]
  rw [← hwe]
  exact st_fin S6.out hdl 0 _ _ I6.out
  --END 8
end Go.Proofs.Qxb6500716a
