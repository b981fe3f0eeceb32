/-
  ArrivalIsEarliest: the law.
-/
import Derived.Test.Qxb6500716aLx
import Derived.Test.Qxb6500716aLo
namespace Go.Proofs.Qxb6500716a
open Go.RowKit Go.Maps
set_option linter.unusedSimpArgs false
set_option linter.unusedVariables false
set_option maxRecDepth 20000
set_option maxHeartbeats 4000000
def e6R (w0 : World) (d c xb np : Nat) (m : DM) (D2 : Dk) (oc : Nat → Value) (p : Pl) (rv : Value) (a a' : Act) (w' : World) : Prop :=
  ∃ (pb : Nat) (lab9 : Nat → Nat) (po : Option Addr) (pcap : Nat) (dv : Value), Play w0 w' lab9 d (c + 1) m D2 ∧ Blk w' xb 7 oc ∧ Blk w' pb 5 (plz (.int .u8 p.c) (.int .i64 (p.t)) (.int .i64 (p.x)) (.slice po p.path.length pcap) dv) ∧
    a' = ((((((a.put (some 74) (.pointer (some ⟨d, 0, none⟩))).put (some 75) (.pointer (some ⟨d, 0, none⟩))).put (some 76) (.pointer (some ⟨d, 2, none⟩))).put (some 77) (.pointer (some ⟨np, 0, none⟩))).put (some 78) rv).put (some 79) (.agg #[.int .u8 (p.c), .int .i64 (p.t), .slice po p.path.length pcap, dv, .int .i64 (p.x)])).put (some 11) (.pointer (some ⟨pb, 0, none⟩))
theorem plan_set {w w' : World} {pb : Nat} {v0 v1 v2 v3 v4 u0 u1 u2 u3 u4 : Value} (h : Blk w pb 5 (plz u0 u1 u4 u2 u3)) (hw : w' = (((((w.setCell ⟨pb, 0, none⟩ v0).setCell ⟨pb, 1, none⟩ v1).setCell ⟨pb, 2, none⟩ v2).setCell ⟨pb, 3, none⟩ v3).setCell ⟨pb, 4, none⟩ v4)) : Blk w' pb 5 (plz v0 v1 v4 v2 v3) ∧ KeptBut pb w w' := by
  refine ⟨?_, ?_⟩
  · rw [hw]
    refine (((((h.set 0 v0 (by omega)).set 1 v1 (by omega)).set 2 v2 (by omega)).set 3 v3 (by omega)).set 4 v4 (by omega)).congr (fun i hi => ?_)
    rcases (by omega : i = 0 ∨ i = 1 ∨ i = 2 ∨ i = 3 ∨ i = 4) with rfl | rfl | rfl | rfl | rfl <;> rfl
  · rw [hw]
    refine KeptBut.set ?_ (Or.inl (by rfl)) _
    refine KeptBut.set ?_ (Or.inl (by rfl)) _
    refine KeptBut.set ?_ (Or.inl (by rfl)) _
    refine KeptBut.set ?_ (Or.inl (by rfl)) _
    refine KeptBut.set ?_ (Or.inl (by rfl)) _
    exact KeptBut.refl _ _
theorem plan_al {w w' : World} (hw : w' = w.alloc (.cells #[.int .u8 0, .int .i64 (0), .slice none 0 0, .slice none 0 0, .int .i64 (0)] 34)) : Blk w' w.heap.size 5 (plz (.int .u8 0) (.int .i64 (0)) (.int .i64 (0)) (.slice none 0 0) (.slice none 0 0)) := by
  rw [hw]
  refine ⟨by (simp <;> omega), fun i hi => ?_, fun i hi => by simp [go_sem, ↓IntWalk.iteOmega]⟩
  rcases (by omega : i = 0 ∨ i = 1 ∨ i = 2 ∨ i = 3 ∨ i = 4) with rfl | rfl | rfl | rfl | rfl <;> simp [go_sem, ↓IntWalk.iteOmega, plz]
set_option maxHeartbeats 40000000 in
theorem law6 (sb so n cap : Nat) (o : Nat → Opr) (lao : Nat → Option Addr) (lcap : Nat → Nat) (w : World) (hS : Scr w sb so n o lao lcap) (hn : n ≤ 9223372036854775807) :
    Calls Try.prog 6 #[.slice (some ⟨sb, so, none⟩) n cap] w fun e w' => e = .returned (.bool true) ∧ Below w.heap.size w w' := by
  have HS := hid hS
  have SM := hid (small_any sb so n cap o lao lcap w hS hn)
  clear hS
  go_enter Try.func6, Try.ntmps6
  go_wp2_with (go_at_call 11; refine hold ?_)
  unfold Hid
  refine SM.out.mono ?_
  rintro e w1 ⟨⟨b, rfl, hsm⟩, hw1⟩
  obtain rfl : w = w1 := hw1.symm
  clear hw1 SM
  cases b with
  | false =>
    go_wp2
    go_ret
    exact ⟨rfl, Below.rf _⟩
  | true =>
  obtain ⟨hn1, hn2⟩ := hsm rfl
  have HN2 := hid hn2
  clear hsm hn2
  go_wp2
  refine wp_nm fun w1 hw1 => ?_
  have P0 : Hid (Play w w1 (fun b => if b < w.heap.size then 0 else 1) w.heap.size 0 ⟨.pointer none, .pointer none, .pointer none, .slice none 0 0, .slice none 0 0, .slice none 0 0⟩ Dk.zero) := by
    unfold Hid
    rw [hw1]
    refine ⟨⟨⟨by (simp <;> omega), fun i hi => ?_, fun i hi => by simp [go_sem, ↓IntWalk.iteOmega]⟩, by simp, ⟨rfl, rfl, rfl⟩, ⟨⟨none, 0, rfl, Nat.le_refl _⟩, by simp [Dk.zero], fun c hc => by simp [Dk.zero] at hc, fun j c hj => by simp [Dk.zero] at hj⟩, Ints.nil _ _, Ints.nil _ _, fun h => absurd rfl h⟩, by (repeat (first | with_reducible exact Below.rf _ | with_reducible exact World.below_ext _ _ | with_reducible refine Below.ex ?_ _ | with_reducible refine Below.al ?_ _ | with_reducible refine Below.setCell ?_ (by simp) _ | with_reducible refine Below.drew ?_)), fun j hj => if_pos hj, fun X hX => by simp [Dk.zero] at hX⟩
    rcases (by omega : i = 0 ∨ i = 1 ∨ i = 2 ∨ i = 3 ∨ i = 4 ∨ i = 5 ∨ i = 6 ∨ i = 7 ∨ i = 8 ∨ i = 9 ∨ i = 10 ∨ i = 11 ∨ i = 12 ∨ i = 13 ∨ i = 14) with rfl | rfl | rfl | rfl | rfl | rfl | rfl | rfl | rfl | rfl | rfl | rfl | rfl | rfl | rfl <;> simp [go_sem, ↓IntWalk.iteOmega, dcell, Dk.zero]
  clear hw1
  obtain ⟨d, hd⟩ : ∃ y, w.heap.size = y := ⟨_, rfl⟩
  obtain ⟨l1, hl1⟩ : ∃ y, (fun b => if b < w.heap.size then 0 else 1) = y := ⟨_, rfl⟩
  rw [hl1] at P0
  clear hl1
  have hdw : w.heap.size ≤ d := by omega
  rw [hd] at P0 ⊢
  clear hd
  go_loopw [19] (fun v wr => ∃ (i c : Nat) (lab : Nat → Nat) (m : DM) (D : Dk), v = .int .i64 (i) ∧ i ≤ n ∧ c ≤ 2 * i ∧ Play w wr lab d c m D ∧ D.inv ∧ D.cel) (fun v _ => n - (intOf v).toNat)
  case atStart => exact ⟨0, 0, l1, _, _, rfl, Nat.zero_le _, Nat.le_refl _, P0.out, fun X hX => by simp [Dk.zero] at hX, fun X hX => by simp [Dk.zero] at hX⟩
  case round =>
    obtain ⟨i, c, lab, m, D, rfl, hi, hc, hP, hinv, hcel⟩ := hrel
    have HP := hid hP
    have HINV := hid hinv
    have HCEL := hid hcel
    clear P0 w1 hP hinv hcel
    by_cases hin : i < n
    · obtain ⟨c0, c1, c2, c3, c4, c5, c6⟩ := (HS.out.below HP.out.bl).cells i hin
      have hsb := (HS.out.below HP.out.bl).hsb
      have hdl := HP.out.dk.b.lt
      have di : decide ((i : Int) < (n : Int)) = true := by simp; omega
      have din : decide (i < n) = true := by simp; omega
      have hud : ∀ j, j < wr.heap.size → upd lab wr.heap.size 0 j = lab j := fun j hj => upd_ne _ _ (by omega)
      by_cases hK5 : (o i).K = 5
      · have dK5 : ((o i).K == 5) = true := by simp [hK5]
        have HK := hid hK5
        clear hK5
        have hw := HP.out.dk.wd
        cases hW : D.W with
        | none =>
          --BEGIN N5
          rw [hW] at hw
          have d0 : wr.cell? ⟨d, 0, none⟩ = some (.pointer none) := by
            rw [HP.out.dk.b.is 0 (by omega)]
            show some m.fv = _
            rw [hw.1]
          clear hw hW
          go_wp2_with (first | fail | (go_at_call 12; refine hold ?_))
          unfold Hid
          refine calls_nm fun w4 hw4 => ?_
          have B4 : Below wr.heap.size wr w4 := by rw [hw4]; (repeat (first | with_reducible exact Below.rf _ | with_reducible exact World.below_ext _ _ | with_reducible refine Below.ex ?_ _ | with_reducible refine Below.al ?_ _ | with_reducible refine Below.setCell ?_ (by simp) _ | with_reducible refine Below.drew ?_))
          have HP4 := hid ((HP.out.relab hud).below B4)
          clear hw4 B4 HP
          refine (HP4.out.call2 HS.out hin (by omega) (HN2.out i hin)).mono ?_
          rintro e w9 ⟨l9, m9, av, rfl, hD9, hIv9, hl9, hk9⟩
          have P9 := HP4.out.next (o i) hD9 hl9 hk9
          have HIV9 := hid (step_inv D (o i) HINV.out P9.fok)
          have HCE9 := hid (step_cel D (o i) HCEL.out (fun X hX => (HINV.out X hX).1))
          have HP9 := hid P9
          clear P9 hD9 hIv9 hl9 hk9
          go_wp2
          go_roundw
          case rel => exact ⟨i + 1, c + 1, l9, m9, _, by go_num, by omega, by omega, HP9.out, HIV9.out, HCE9.out⟩
          case measure => (simp [intOf] <;> omega)
          --END N5
        | some X =>
          rw [hW] at hw
          obtain ⟨fb, M, N, nn, f1, f2, f3, hF, hT, hPP⟩ := hw
          have d0 : wr.cell? ⟨d, 0, none⟩ = some (.pointer (some ⟨fb, 0, none⟩)) := by
            rw [HP.out.dk.b.is 0 (by omega)]
            show some m.fv = _
            rw [f1]
          have CL : Hid (∀ w' : World, Below wr.heap.size wr w' → Calls Try.prog 30 #[.pointer (some ⟨fb, 0, none⟩)] w' fun e w'' => e = .returned (.int .i64 (X.F.n)) ∧ w'' = w') := fun w' h => cells_any fb X.F lab w' (hF.below h)
          have hfn := hF.ok.n
          by_cases hn20 : X.F.n ≤ 20
          · have d20 : decide ((X.F.n : Int) ≤ 20) = true := by simp; omega
            have d20n : decide (X.F.n ≤ 20) = true := by simp; omega
            by_cases hD24 : (o i).D ≤ 24
            · have d24 : decide ((o i).D ≤ 24) = true := by simp [hD24]
              --BEGIN G5
              have HF := hid hF
              have HT := hid hT
              have HPP := hid hPP
              have HF1 := hid f1
              have HF2 := hid f2
              have HF3 := hid f3
              have HW := hid hW
              have HIV : Hid (Ints wr lab (.slice (lao i) (o i).l.length (lcap i)) (o i).l) := ((HS.out.iv i hin).relab (lab' := lab) (fun b hb _ => Or.inl (HP.out.l0 b hb))).keptL (A := fun _ => False) (KeptL.of_below HP.out.bl) (fun _ h => h.elim)
              have hopi := HS.out.op i hin
              clear f1 f2 f3 hF hT hPP hW
              go_wp2_with (first | (go_at_call 30; refine (CL.out _ (by (repeat (first | with_reducible exact Below.rf _ | with_reducible exact World.below_ext _ _ | with_reducible refine Below.ex ?_ _ | with_reducible refine Below.al ?_ _ | with_reducible refine Below.setCell ?_ (by simp) _ | with_reducible refine Below.drew ?_)))).mono ?_; rintro e w' ⟨rfl, hw'⟩; obtain rfl := hw'.symm) | (go_at_call 33; refine hold ?_))
              unfold Hid
              refine calls_nm fun w4 hw4 => ?_
              have hb4 : Below wr.heap.size wr w4 := by rw [hw4]; (repeat (first | with_reducible exact Below.rf _ | with_reducible exact World.below_ext _ _ | with_reducible refine Below.ex ?_ _ | with_reducible refine Below.al ?_ _ | with_reducible refine Below.setCell ?_ (by simp) _ | with_reducible refine Below.drew ?_))
              have X4 : Blk w4 wr.heap.size 7 (ocell (o i) (.slice (lao i) (o i).l.length (lcap i))) := by
                rw [hw4]
                refine ⟨by (simp <;> omega), fun i hi => ?_, fun i hi => by simp [go_sem, ↓IntWalk.iteOmega]⟩
                rcases (by omega : i = 0 ∨ i = 1 ∨ i = 2 ∨ i = 3 ∨ i = 4 ∨ i = 5 ∨ i = 6) with rfl | rfl | rfl | rfl | rfl | rfl | rfl <;> simp [go_sem, ↓IntWalk.iteOmega, ocell]
              obtain ⟨xb, hxb⟩ : ∃ y, wr.heap.size = y := ⟨_, rfl⟩
              have HXB := hid hxb
              rw [hxb] at X4 ⊢
              refine (request_any (o i) _ lab w4 (HIV.out.keptL (A := fun _ => False) (KeptL.of_below hb4) (fun _ h => h.elim)) (HN2.out i hin)).mono ?_
              rintro e w5 ⟨hb5, hif⟩
              have hb45 : Below wr.heap.size wr w5 := hb4.trans (hb5.mono hb4.size)
              have X5 := X4.below hb5
              have x0 : w5.cell? ⟨xb, 0, none⟩ = some (.int .i64 ((o i).K)) := X5.is 0 (by omega)
              have x1 : w5.cell? ⟨xb, 1, none⟩ = some (.int .i64 ((o i).A)) := X5.is 1 (by omega)
              have x2 : w5.cell? ⟨xb, 2, none⟩ = some (.int .i64 ((o i).B)) := X5.is 2 (by omega)
              have x3 : w5.cell? ⟨xb, 3, none⟩ = some (.int .i64 ((o i).C)) := X5.is 3 (by omega)
              have x4 : w5.cell? ⟨xb, 4, none⟩ = some (.int .i64 ((o i).D)) := X5.is 4 (by omega)
              have x5 : w5.cell? ⟨xb, 5, none⟩ = some (.int .i64 ((o i).E)) := X5.is 5 (by omega)
              have x6 : w5.cell? ⟨xb, 6, none⟩ = some (.slice (lao i) (o i).l.length (lcap i)) := X5.is 6 (by omega)
              have hxl := X5.lt
              have HX5 := hid X5
              have HB45 := hid hb45
              have hl0 : ∀ j, j < wr.heap.size → (fun b => if b < wr.heap.size then lab b else 0) j = lab j := fun j hj => if_pos hj
              have hl1 : ∀ k, w4.heap.size ≤ k → (fun b => if b < wr.heap.size then lab b else 0) k = 0 := fun k hk => if_neg (by have := hb4.size; omega)
              obtain ⟨lb5, hlb5⟩ : ∃ y, (fun b => if b < wr.heap.size then lab b else 0) = y := ⟨_, rfl⟩
              rw [hlb5] at hl0 hl1
              have HL0 := hid hl0
              have hlf : ∀ k, wr.heap.size ≤ k → lb5 k = 0 := fun k hk => by rw [← hlb5]; exact if_neg (by omega)
              have HLF := hid hlf
              clear hw4 hb4 X4 X5 hb45 hxb hlb5 hlf hl0 c0 c1 c2 c3 c4 c5 c6 hsb d0 CL HIV hud d24 d20 d20n hdl
              by_cases hodd : (o i).l.length % 2 = 1
              · --BEGIN O5
                rw [if_pos hodd] at hif
                obtain rfl := hif
                clear hodd hl1 hb5
                go_wp2_with (first | (go_at_call 12; refine hold ?_))
                unfold Hid
                refine calls_nm fun w6 hw6 => ?_
                have B6 : Below w5.heap.size w5 w6 := by rw [hw6]; (repeat (first | with_reducible exact Below.rf _ | with_reducible exact World.below_ext _ _ | with_reducible refine Below.ex ?_ _ | with_reducible refine Below.al ?_ _ | with_reducible refine Below.setCell ?_ (by simp) _ | with_reducible refine Below.drew ?_))
                have HP6 := hid ((HP.out.relab HL0.out).below (HB45.out.trans (B6.mono HB45.out.size)))
                clear hw6 B6 HP
                refine (HP6.out.call2 HS.out hin (by omega) (HN2.out i hin)).mono ?_
                rintro e w9 ⟨l9, m9, av, rfl, hD9, hIv9, hl9, hk9⟩
                have P9 := HP6.out.next (o i) hD9 hl9 hk9
                have HIV9 := hid (step_inv D (o i) HINV.out P9.fok)
                have HCE9 := hid (step_cel D (o i) HCEL.out (fun X hX => (HINV.out X hX).1))
                have HP9 := hid P9
                clear P9 hD9 hIv9 hl9 hk9
                go_wp2
                go_roundw
                case rel => exact ⟨i + 1, c + 1, l9, m9, _, by go_num, by omega, by omega, HP9.out, HIV9.out, HCE9.out⟩
                case measure => (simp [intOf] <;> omega)
                --END O5
              rw [if_neg hodd] at hif
              obtain ⟨gv, rfl, hGA⟩ := hif
              have hG5 := hGA lb5 hl1
              obtain ⟨go, gc, hgv, hgcc⟩ := hG5.ex
              obtain ⟨gn, hgn⟩ : ∃ y, (gls (o i).l).length = y := ⟨_, rfl⟩
              rw [hgn] at hgv
              subst hgv
              have HG5 := hid hG5
              clear hGA hG5 hgn hgcc hodd hl1 hb5
              go_wp2
              refine wp_nm fun w6 hw6 => ?_
              have hb6 : Below w5.heap.size w5 w6 := by rw [hw6]; (repeat (first | with_reducible exact Below.rf _ | with_reducible exact World.below_ext _ _ | with_reducible refine Below.ex ?_ _ | with_reducible refine Below.al ?_ _ | with_reducible refine Below.setCell ?_ (by simp) _ | with_reducible refine Below.drew ?_))
              obtain ⟨q, hq⟩ : ∃ y : Rq, { rqOf (o i) with m := 1048576 } = y := ⟨_, rfl⟩
              obtain ⟨qb, hqb⟩ : ∃ y, w5.heap.size = y := ⟨_, rfl⟩
              have Q6 : Blk w6 w5.heap.size 6 (rq4 q (.slice go gn gc)) := by
                rw [hw6, ← hq]
                refine ⟨by (simp <;> omega), fun i hi => ?_, fun i hi => by simp [go_sem, ↓IntWalk.iteOmega]⟩
                rcases (by omega : i = 0 ∨ i = 1 ∨ i = 2 ∨ i = 3 ∨ i = 4 ∨ i = 5) with rfl | rfl | rfl | rfl | rfl | rfl <;> simp [go_sem, ↓IntWalk.iteOmega, rq4, rqOf]
              rw [hqb] at Q6 ⊢
              have HQB := hid hqb
              have hqm : q.m = 1048576 := by rw [← hq]
              have hqh : q.h ≤ 24 := by rw [← hq]; exact hD24
              have HQG : Hid (q.gl = gls (o i).l) := by unfold Hid; rw [← hq]; rfl
              have HQI : Hid (RqI q) := by
                obtain ⟨hA, hB, hC, hD, hE⟩ := hopi
                unfold Hid
                rw [← hq]
                exact ⟨hA, hB, hC, hD, by unfold I64; simp only; omega⟩
              have HB6 : Hid (Below wr.heap.size wr w6) := HB45.out.trans (hb6.mono HB45.out.size)
              have HX6 := hid (HX5.out.below hb6)
              have HG6 : Hid (GAt w6 lb5 (.slice go gn gc) q.gl) := by unfold Hid; rw [HQG.out]; exact HG5.out.below hb6
              have HQ6 := hid Q6
              have HP6 := hid ((HP.out.relab HL0.out).below HB6.out)
              have d0 : w6.cell? ⟨d, 0, none⟩ = some (.pointer (some ⟨fb, 0, none⟩)) := by
                rw [HP6.out.dk.b.is 0 (by omega)]
                show some m.fv = _
                rw [HF1.out]
              have d1 : w6.cell? ⟨d, 1, none⟩ = some (.pointer (some ⟨M.t, 0, none⟩)) := by
                rw [HP6.out.dk.b.is 1 (by omega)]
                show some m.tv = _
                rw [HF2.out]
              have hdl6 := HP6.out.dk.b.lt
              have HB45s : Hid (wr.heap.size ≤ w5.heap.size) := HB45.out.size
              clear hw6 hb6 hq hqb Q6 x0 x1 x2 x3 x4 x5 x6 hxl HX5 HB45 HG5 hopi hD24
              --BEGIN E5
              have r0 : w6.cell? ⟨qb, 0, none⟩ = some (.int .i64 (q.r)) := HQ6.out.is 0 (by omega)
              have r1 : w6.cell? ⟨qb, 1, none⟩ = some (.int .i64 (q.s)) := HQ6.out.is 1 (by omega)
              have r2 : w6.cell? ⟨qb, 2, none⟩ = some (.int .i64 (q.t)) := HQ6.out.is 2 (by omega)
              have r3 : w6.cell? ⟨qb, 3, none⟩ = some (.slice go gn gc) := HQ6.out.is 3 (by omega)
              have r4 : w6.cell? ⟨qb, 4, none⟩ = some (.int .i64 (q.h)) := HQ6.out.is 4 (by omega)
              have r5 : w6.cell? ⟨qb, 5, none⟩ = some (.int .i64 (q.m)) := HQ6.out.is 5 (by omega)
              have hql := HQ6.out.lt
              have HQM := hid hqm
              have HQH := hid hqh
              clear hqm hqh
              go_region_held3 (fun w' => w'.cell? ⟨d, 0, none⟩ = some (.pointer (some ⟨fb, 0, none⟩)) ∧ w'.cell? ⟨d, 1, none⟩ = some (.pointer (some ⟨M.t, 0, none⟩))) (simp [go_sem, ↓IntWalk.iteOmega, *]) (fail)
              go_wp2_with (first | (go_at_call 34; refine hold ?_))
              unfold Hid
              refine calls_nm fun w7 hw7 => ?_
              have hb7 : Below w6.heap.size w6 w7 := by rw [hw7]; (repeat (first | with_reducible exact Below.rf _ | with_reducible exact World.below_ext _ _ | with_reducible refine Below.ex ?_ _ | with_reducible refine Below.al ?_ _ | with_reducible refine Below.setCell ?_ (by simp) _ | with_reducible refine Below.drew ?_))
              have MO7 : MoAt w7 w6.heap.size fb M.t := by
                rw [hw7]
                exact ⟨by simp [go_sem, ↓IntWalk.iteOmega], by simp [go_sem, ↓IntWalk.iteOmega], by simp⟩
              have hb07 : Below wr.heap.size wr w7 := HB6.out.trans (hb7.mono HB6.out.size)
              have F7 := (HF.out.relab (lab' := lb5) (fun b hb h => by rw [HL0.out b hb]; exact h)).below hb07
              have T7 := (HT.out.relab HL0.out).below hb07
              refine (solve_any w6.heap.size fb M X.F X.T lb5 q (.slice go gn gc) w7 F7 T7 MO7 (HG6.out.below hb7)).mono ?_
              rintro e w8 ⟨hB8, code, arr, rfl, hdis⟩
              have hwb := HP.out.wb X HW.out
              have hag := earliest (S := X.S) HF.out.ok (HINV.out X HW.out).2 (HCEL.out X HW.out) hwb.nr hwb.nc hn20 HQH.out HQM.out hdis
              have hb8 : Below w6.heap.size w6 w8 := hb7.trans (hB8.mono hb7.size)
              have HB8 : Hid (Below wr.heap.size wr w8) := HB6.out.trans (hb8.mono HB6.out.size)
              have HQ8 := hid (HQ6.out.below hb8)
              have HX8 := hid (HX6.out.below hb8)
              have HG8 := hid (HG6.out.below hb8)
              have HP8 := hid (HP6.out.below hb8)
              have HAG := hid hag
              have HWB := hid hwb
              clear hw7 hb7 MO7 hb07 F7 T7 hB8 hdis hag hb8 HQ6 HX6 HG6 HP6 HB6 r0 r1 r2 r3 r4 r5 d0 d1 hdl6 hwb hql
              obtain ⟨p, hp⟩ : ∃ y, (PS.search X.F X.T q X.S).2 = y := ⟨_, rfl⟩
              have hpok := search_pl (T := X.T) (q := q) HF.out.ok HWB.out.ms
              rw [hp] at hpok HAG
              have hpt := hpok.t
              have hplen := hpok.ln
              have hask : (PS.ask X.F X.T q X.S).2 = p := hp
              have HASK := hid hask
              have r0 : w8.cell? ⟨qb, 0, none⟩ = some (.int .i64 (q.r)) := HQ8.out.is 0 (by omega)
              have r1 : w8.cell? ⟨qb, 1, none⟩ = some (.int .i64 (q.s)) := HQ8.out.is 1 (by omega)
              have r2 : w8.cell? ⟨qb, 2, none⟩ = some (.int .i64 (q.t)) := HQ8.out.is 2 (by omega)
              have r3 : w8.cell? ⟨qb, 3, none⟩ = some (.slice go gn gc) := HQ8.out.is 3 (by omega)
              have r4 : w8.cell? ⟨qb, 4, none⟩ = some (.int .i64 (q.h)) := HQ8.out.is 4 (by omega)
              have r5 : w8.cell? ⟨qb, 5, none⟩ = some (.int .i64 (q.m)) := HQ8.out.is 5 (by omega)
              have d2 : w8.cell? ⟨d, 2, none⟩ = some (.pointer (some ⟨N.p, 0, none⟩)) := by
                rw [HP8.out.dk.b.is 2 (by omega)]
                show some m.pv = _
                rw [HF3.out]
              have hql := HQ8.out.lt
              have hdl8 := HP8.out.dk.b.lt
              have HPT := hid hpt
              have HC0 := hid hpok.c0
              have hbs := HT.out.bd.base
              clear hp hpok hask hpt
              have hlx : lb5 xb = 0 := HLF.out xb (by rw [HXB.out]; exact Nat.le_refl _)
              have hlq : lb5 qb = 0 := HLF.out qb (by rw [← HQB.out]; exact HB45s.out)
              have S8 : Hid (∀ (w' : World) (lb' : Nat → Nat), KeptL lb' seaL w8 w' → lb' d = 1 → lb' qb = 0 → (w'.cell? ⟨d, 2, none⟩ = some (.pointer (some ⟨N.p, 0, none⟩)) ∧ w'.cell? ⟨qb, 0, none⟩ = some (.int .i64 (q.r)) ∧ w'.cell? ⟨qb, 1, none⟩ = some (.int .i64 (q.s)) ∧ w'.cell? ⟨qb, 2, none⟩ = some (.int .i64 (q.t)) ∧ w'.cell? ⟨qb, 3, none⟩ = some (.slice go gn gc) ∧ w'.cell? ⟨qb, 4, none⟩ = some (.int .i64 (q.h)) ∧ w'.cell? ⟨qb, 5, none⟩ = some (.int .i64 (q.m)))) := fun w' lb' hk h1 h2 => by
                have hd := hk.block d hdl8 (by rw [h1]; unfold seaL; omega)
                have hq := hk.block qb hql (by rw [h2]; unfold seaL; omega)
                exact ⟨(World.cell?_of_block hd).trans d2, (World.cell?_of_block hq).trans r0, (World.cell?_of_block hq).trans r1, (World.cell?_of_block hq).trans r2, (World.cell?_of_block hq).trans r3, (World.cell?_of_block hq).trans r4, (World.cell?_of_block hq).trans r5⟩
              have hl8d := HP8.out.dk.ld
              have AK : Hid (∀ (w' : World) (lb' : Nat → Nat), (∀ k, k < wr.heap.size → lb' k = lb5 k) → (∀ k, k < w8.heap.size → lb' k = lb5 k) → Below w8.heap.size w8 w' → Calls Try.prog 35 #[.pointer (some ⟨N.p, 0, none⟩), .agg #[.int .i64 ((q).r), .int .i64 ((q).s), .int .i64 ((q).t), .slice go gn gc, .int .i64 ((q).h), .int .i64 ((q).m)]] w' (askPost lb' M N fb (PS.ask X.F X.T q X.S) w')) := fun w' lb' h1 h1' h2 => by
                have hb : Below wr.heap.size wr w' := HB8.out.trans (h2.mono HB8.out.size)
                have h3 : ∀ k, k < wr.heap.size → lb' k = lab k := fun k hk => (h1 k hk).trans (HL0.out k hk)
                exact ask_any M X.T N X.S nn fb X.F lb' q (.slice go gn gc) w' ((HF.out.relab (fun b hb h => by rw [h3 b hb]; exact h)).below hb) ((HT.out.relab h3).below hb) ((HPP.out.relab h3).below hb) ((HG8.out.relab (fun b hb h => by rw [h1' b hb]; exact h)).below h2) HQI.out HWB.out.ms (fun i hi => by have := HWB.out.st i hi; omega)
              go_wp2
              refine region_via (e6R w d c xb N.p m { D with W := some ⟨X.F, X.T, (PS.ask X.F X.T q X.S).1⟩ } (ocell (o i) (.slice (lao i) (o i).l.length (lcap i))) p (.agg #[.int .i64 ((q).r), .int .i64 ((q).s), .int .i64 ((q).t), .slice go gn gc, .int .i64 ((q).h), .int .i64 ((q).m)])) ?_ ?_
              · --BEGIN R5
                refine wp_region_tree 7 (fun w' => w'.cell? ⟨d, 2, none⟩ = some (.pointer (some ⟨N.p, 0, none⟩)) ∧ w'.cell? ⟨qb, 0, none⟩ = some (.int .i64 (q.r)) ∧ w'.cell? ⟨qb, 1, none⟩ = some (.int .i64 (q.s)) ∧ w'.cell? ⟨qb, 2, none⟩ = some (.int .i64 (q.t)) ∧ w'.cell? ⟨qb, 3, none⟩ = some (.slice go gn gc) ∧ w'.cell? ⟨qb, 4, none⟩ = some (.int .i64 (q.h)) ∧ w'.cell? ⟨qb, 5, none⟩ = some (.int .i64 (q.m))) (.q 0 false (.q 1 false (.q 2 false (.q 3 true (.q 4 true (.two 5 6 (.one 6 true (.one 7 false .nil)) (.one 5 true (.one 7 false .nil)))))))) (by kernel_rfl) (by kernel_rfl) (by kernel_rfl) ?_ ?_
                · simp [go_sem, ↓IntWalk.iteOmega, *]
                repeat (first | (refine wpTr_qf (v := ?_) rfl rfl ?_ ?_; rotate_left; focus (intro w; go_simp; (try (with_reducible rfl)); done); try simp only [List.getElem_toArray, List.getElem_cons_zero, List.getElem_cons_succ, Act.put, List.setIfInBounds_toArray, List.set_cons_zero, List.set_cons_succ]) | (refine wpTr_qt (v := ?_) rfl rfl ?_ ?_; rotate_left; focus (intro w hSw; (try dsimp only at hSw); go_simp; (try (with_reducible rfl)); done); try simp only [List.getElem_toArray, List.getElem_cons_zero, List.getElem_cons_succ, Act.put, List.setIfInBounds_toArray, List.set_cons_zero, List.set_cons_succ]))
                refine wpTr_two rfl rfl rfl rfl ?_ ?_
                · --BEGIN Y5
                  intro K hK
                  go_simp
                  go_at_call 35
                  have hbd : Below w8.heap.size w8 w8.drew := (Below.rf w8).drew
                  refine (AK.out _ lb5 (fun _ _ => rfl) (fun _ _ => rfl) hbd).mono ?_
                  rintro e w9 ⟨lab9, N9, n9, v, rfl, hP9, hN9, hl9, hk9, hV⟩
                  obtain ⟨pv, dv, rfl, hIp, hId, -⟩ := hV
                  rw [HASK.out] at hIp hId ⊢
                  obtain ⟨po, pcap, rfl, -⟩ := hIp.ex
                  obtain ⟨dq, dcap, rfl, -⟩ := hId.ex
                  have hk89 : KeptL lb5 seaL w8 w9 := (KeptL.of_below hbd).trans hk9
                  have hb8d : Below wr.heap.size wr w8.drew := HB8.out.trans (hbd.mono HB8.out.size)
                  have P9 := (HP8.out.below hbd).asked HW.out HF1.out HF2.out HF3.out ((HF.out.relab (lab' := lb5) (fun b hb h => by rw [HL0.out b hb]; exact h)).below hb8d) ((HT.out.relab HL0.out).below hb8d) hP9 hN9 hl9 hk9
                  have X9 := HX8.out.keptL hk89 (by rw [hlx]; unfold seaL; omega)
                  refine hK.out _ _ (S8.out _ lb5 hk89 hl8d hlq) ?_
                  clear hK K
                  refine wpTr_one rfl rfl (fun K hK => ?_)
                  go_simp
                  obtain ⟨w10, hw10⟩ : ∃ y, y = w9.alloc (.cells #[.int .u8 0, .int .i64 (0), .slice none 0 0, .slice none 0 0, .int .i64 (0)] 34) := ⟨_, rfl⟩
                  have hb10 : Below w9.heap.size w9 w10 := by rw [hw10]; (repeat (first | with_reducible exact Below.rf _ | with_reducible exact World.below_ext _ _ | with_reducible refine Below.ex ?_ _ | with_reducible refine Below.al ?_ _ | with_reducible refine Below.setCell ?_ (by simp) _ | with_reducible refine Below.drew ?_))
                  have zB := plan_al hw10
                  rw [← hw10]
                  refine hK.out _ _ (fun _ => S8.out _ lb5 (hk89.trans (KeptL.of_below hb10)) hl8d hlq) ?_
                  clear hK K hw10
                  have z0 := zB.is 0 (by omega)
                  have z1 := zB.is 1 (by omega)
                  have z2 := zB.is 2 (by omega)
                  have z3 := zB.is 3 (by omega)
                  have z4 := zB.is 4 (by omega)
                  have g0 := zB.fz 0 (by omega)
                  have g1 := zB.fz 1 (by omega)
                  have g2 := zB.fz 2 (by omega)
                  have g3 := zB.fz 3 (by omega)
                  have g4 := zB.fz 4 (by omega)
                  have zlt := zB.lt
                  refine wpTr_one rfl rfl (fun K hK => ?_)
                  go_simp
                  refine hK.out _ _ (fun h => by cases h) ?_
                  clear hK K
                  refine wpTr_nil ?_
                  refine NoPanic.normal ?_
                  obtain ⟨k1, k2⟩ := plan_set (v0 := .int .u8 p.c) (v1 := .int .i64 (p.t)) (v2 := .slice po p.path.length pcap) (v3 := .slice dq p.done.length dcap) (v4 := .int .i64 (p.x)) zB rfl
                  have hb11 := hb10.trans (k2.to_below (Nat.le_refl _) hb10.size)
                  exact ⟨rfl, _, lab9, po, pcap, .slice dq p.done.length dcap, P9.below hb11, X9.below hb11, k1, by simp only [Act.put, List.setIfInBounds_toArray, List.set_cons_zero, List.set_cons_succ, List.getElem_toArray, List.getElem_cons_zero, List.getElem_cons_succ]⟩
                  --END Y5
                · --BEGIN Z5
                  intro K hK
                  go_simp
                  obtain ⟨w9, hw9⟩ : ∃ y, y = w8.alloc (.cells #[.int .u8 0, .int .i64 (0), .slice none 0 0, .slice none 0 0, .int .i64 (0)] 34) := ⟨_, rfl⟩
                  have hb9 : Below w8.heap.size w8 w9 := by rw [hw9]; (repeat (first | with_reducible exact Below.rf _ | with_reducible exact World.below_ext _ _ | with_reducible refine Below.ex ?_ _ | with_reducible refine Below.al ?_ _ | with_reducible refine Below.setCell ?_ (by simp) _ | with_reducible refine Below.drew ?_))
                  have zB9 := plan_al hw9
                  rw [← hw9]
                  have hb9d : Below w8.heap.size w8 w9.drew := hb9.drew
                  refine hK.out _ _ (S8.out _ lb5 (KeptL.of_below hb9d) hl8d hlq) ?_
                  clear hK K hw9
                  have hu : ∀ k, k < w8.heap.size → upd lb5 w8.heap.size 1 k = lb5 k := fun k hk => upd_ne _ _ (by omega)
                  have hu1 : upd lb5 w8.heap.size 1 w8.heap.size = 1 := upd_at _ _ _
                  obtain ⟨pb, hpb⟩ : ∃ y, w8.heap.size = y := ⟨_, rfl⟩
                  rw [hpb] at zB9 hu1 ⊢
                  obtain ⟨lbB, hlbB⟩ : ∃ y, upd lb5 w8.heap.size 1 = y := ⟨_, rfl⟩
                  rw [hlbB] at hu
                  rw [hpb] at hlbB
                  rw [hlbB] at hu1
                  have hwl : ∀ k, k < wr.heap.size → lbB k = lb5 k := fun k hk => hu k (Nat.lt_of_lt_of_le hk HB8.out.size)
                  refine wpTr_one rfl rfl (fun K hK => ?_)
                  go_simp
                  go_at_call 35
                  refine (AK.out _ lbB hwl hu hb9d).mono ?_
                  rintro e w10 ⟨lab9, N9, n9, v, rfl, hP9, hN9, hl9, hk9, hV⟩
                  obtain ⟨pv, dv, rfl, hIp, hId, -⟩ := hV
                  rw [HASK.out] at hIp hId ⊢
                  obtain ⟨po, pcap, rfl, -⟩ := hIp.ex
                  obtain ⟨dq, dcap, rfl, -⟩ := hId.ex
                  have hk89 : KeptL lbB seaL w8 w10 := ⟨hk9.os.trans hb9d.os, hk9.tape.trans hb9d.tape, hk9.output.trans hb9d.output, Nat.le_trans hb9d.size hk9.size, fun k h1 h2 => (hk9.block k (Nat.lt_of_lt_of_le h1 hb9d.size) h2).trans (hb9d.block k h1)⟩
                  have hb8d : Below wr.heap.size wr w9.drew := HB8.out.trans (hb9d.mono HB8.out.size)
                  have h3 : ∀ k, k < wr.heap.size → lbB k = lab k := fun k hk => (hwl k hk).trans (HL0.out k hk)
                  have P9 := ((HP8.out.relab hu).below hb9d).asked HW.out HF1.out HF2.out HF3.out ((HF.out.relab (lab' := lbB) (fun b hb h => by rw [h3 b hb]; exact h)).below hb8d) ((HT.out.relab h3).below hb8d) hP9 hN9 hl9 hk9
                  have X9 := HX8.out.keptL hk89 (by rw [hu xb HX8.out.lt, hlx]; unfold seaL; omega)
                  have zBd := zB9.below ((Below.rf w9).drew)
                  have zB := zBd.keptL hk9 (by rw [hu1]; unfold seaL; omega)
                  refine hK.out _ _ (fun _ => S8.out _ lbB hk89 ((hu d hdl8).trans hl8d) ((hu qb hql).trans hlq)) ?_
                  clear hK K
                  have z0 := zB.is 0 (by omega)
                  have z1 := zB.is 1 (by omega)
                  have z2 := zB.is 2 (by omega)
                  have z3 := zB.is 3 (by omega)
                  have z4 := zB.is 4 (by omega)
                  have g0 := zB.fz 0 (by omega)
                  have g1 := zB.fz 1 (by omega)
                  have g2 := zB.fz 2 (by omega)
                  have g3 := zB.fz 3 (by omega)
                  have g4 := zB.fz 4 (by omega)
                  have zlt := zB.lt
                  refine wpTr_one rfl rfl (fun K hK => ?_)
                  go_simp
                  refine hK.out _ _ (fun h => by cases h) ?_
                  clear hK K
                  refine wpTr_nil ?_
                  refine NoPanic.normal ?_
                  obtain ⟨k1, k2⟩ := plan_set (v0 := .int .u8 p.c) (v1 := .int .i64 (p.t)) (v2 := .slice po p.path.length pcap) (v3 := .slice dq p.done.length dcap) (v4 := .int .i64 (p.x)) zB rfl
                  have hlp : lab9 pb = 1 := (hl9 pb zBd.lt).trans hu1
                  have hdp : d ≠ pb := by omega
                  have hw0p : w.heap.size ≤ pb := by have := HP8.out.bl.size; omega
                  have hxp : xb ≠ pb := by have := HX8.out.lt; omega
                  exact ⟨rfl, _, lab9, po, pcap, .slice dq p.done.length dcap, P9.kept1 k2 hlp hdp hw0p, X9.kept k2 hxp, k1, by simp only [Act.put, List.setIfInBounds_toArray, List.set_cons_zero, List.set_cons_succ, List.getElem_toArray, List.getElem_cons_zero, List.getElem_cons_succ]⟩
                  --END Z5
                --END R5
              · --BEGIN Q5
                rintro a w11 ⟨pb, lab9, po, pcap, dv, hP11, hX11, hB11, rfl⟩
                simp only [Act.put, List.setIfInBounds_toArray, List.set_cons_zero, List.set_cons_succ]
                have p0 : w11.cell? ⟨pb, 0, none⟩ = some (.int .u8 p.c) := hB11.is 0 (by omega)
                have p1 : w11.cell? ⟨pb, 1, none⟩ = some (.int .i64 (p.t)) := hB11.is 1 (by omega)
                have p2 : w11.cell? ⟨pb, 2, none⟩ = some (.slice po p.path.length pcap) := hB11.is 2 (by omega)
                have p3 : w11.cell? ⟨pb, 3, none⟩ = some dv := hB11.is 3 (by omega)
                have p4 : w11.cell? ⟨pb, 4, none⟩ = some (.int .i64 (p.x)) := hB11.is 4 (by omega)
                have hpl := hB11.lt
                have x0 : w11.cell? ⟨xb, 0, none⟩ = some (.int .i64 ((o i).K)) := hX11.is 0 (by omega)
                have x1 : w11.cell? ⟨xb, 1, none⟩ = some (.int .i64 ((o i).A)) := hX11.is 1 (by omega)
                have x2 : w11.cell? ⟨xb, 2, none⟩ = some (.int .i64 ((o i).B)) := hX11.is 2 (by omega)
                have x3 : w11.cell? ⟨xb, 3, none⟩ = some (.int .i64 ((o i).C)) := hX11.is 3 (by omega)
                have x4 : w11.cell? ⟨xb, 4, none⟩ = some (.int .i64 ((o i).D)) := hX11.is 4 (by omega)
                have x5 : w11.cell? ⟨xb, 5, none⟩ = some (.int .i64 ((o i).E)) := hX11.is 5 (by omega)
                have x6 : w11.cell? ⟨xb, 6, none⟩ = some (.slice (lao i) (o i).l.length (lcap i)) := hX11.is 6 (by omega)
                have hxl := hX11.lt
                have HP11 := hid hP11
                have hcc := HAG.out.1
                have har := HAG.out.2
                have HINV2 : Hid (Dk.inv { D with W := some ⟨X.F, X.T, (PS.ask X.F X.T q X.S).1⟩ }) := fun Y hY => by
                  simp only [Option.some.injEq] at hY
                  rw [← hY]
                  exact HINV.out X HW.out
                have HCEL2 : Hid (Dk.cel { D with W := some ⟨X.F, X.T, (PS.ask X.F X.T q X.S).1⟩ }) := fun Y hY => by
                  simp only [Option.some.injEq] at hY
                  rw [← hY]
                  exact HCEL.out X HW.out
                clear HINV HCEL
                have HINV := HINV2
                have HCEL := HCEL2
                obtain ⟨D2, hD2⟩ : ∃ y, ({ D with W := some ⟨X.F, X.T, (PS.ask X.F X.T q X.S).1⟩ } : Dk) = y := ⟨_, rfl⟩
                rw [hD2] at HP11 HINV HCEL
                obtain ⟨pcd, hpcd⟩ : ∃ y, p.c = y := ⟨_, rfl⟩
                obtain ⟨plen, hplen2⟩ : ∃ y, p.path.length = y := ⟨_, rfl⟩
                rw [hpcd] at p0 hcc
                rw [hplen2] at p2 har hplen
                have hptt := HPT.out
                have hc0' := HC0.out
                rw [hpcd] at hc0'
                obtain ⟨tt, htt⟩ : ∃ y, p.t = y := ⟨_, rfl⟩
                obtain ⟨xx, hxx⟩ : ∃ y, p.x = y := ⟨_, rfl⟩
                rw [htt] at p1 hptt
                rw [hxx] at p4
                subst hcc
                have hbt : pcd = 0 → -4000000000 ≤ tt ∧ tt ≤ 4000000000 := fun h => by
                  have := (rok_of HF.out.ok (hc0' h).1).t
                  omega
                have har2 : pcd = 0 → tt + (plen : Int) - 1 = arr := fun h => by rw [hptt]; exact har h
                have dcc : ((pcd : Int) != (pcd : Int)) = false := by simp
                by_cases hz : pcd = 0
                · --BEGIN V5
                  have dz : ((pcd : Int) == 0) = true := by simp [hz]
                  have AR : Hid (∀ w' : World, Calls Try.prog 36 #[.agg #[.int .u8 (pcd), .int .i64 (tt), .slice po plen pcap, dv, .int .i64 (xx)]] w' fun e w'' => e = .returned (.int .i64 (arr)) ∧ ∃ z, w'' = w'.ext z) := fun w' => by
                    have := arrival_any pcd tt xx po plen pcap dv w' (hbt hz) (by omega)
                    rw [har2 hz] at this
                    exact this
                  have daa : (arr != arr) = false := by simp
                  clear hz hbt har2 har hc0' hptt hP11 hX11 hB11 hpcd hplen2 htt hxx
                  go_wp2_with (first | (go_at_call 36; refine (AR.out _).mono ?_; rintro e w' ⟨rfl, z, rfl⟩) | (go_at_call 12; refine hold ?_))
                  unfold Hid
                  refine calls_nm fun w12 hw12 => ?_
                  have B12 : Below w11.heap.size w11 w12 := by rw [hw12]; (repeat (first | with_reducible exact Below.rf _ | with_reducible exact World.below_ext _ _ | with_reducible refine Below.ex ?_ _ | with_reducible refine Below.al ?_ _ | with_reducible refine Below.setCell ?_ (by simp) _ | with_reducible refine Below.drew ?_))
                  have HP12 := hid (HP11.out.below B12)
                  clear hw12 B12 HP11
                  refine (HP12.out.call2 HS.out hin (by omega) (HN2.out i hin)).mono ?_
                  rintro e w9 ⟨l9, m9, av, rfl, hD9, hIv9, hl9, hk9⟩
                  have P9 := HP12.out.next (o i) hD9 hl9 hk9
                  have HIV9 := hid (step_inv D2 (o i) HINV.out P9.fok)
                  have HCE9 := hid (step_cel D2 (o i) HCEL.out (fun X hX => (HINV.out X hX).1))
                  have HP9 := hid P9
                  clear P9 hD9 hIv9 hl9 hk9
                  go_wp2
                  go_roundw
                  case rel => exact ⟨i + 1, (c + 1) + 1, l9, m9, _, by go_num, by omega, by omega, HP9.out, HIV9.out, HCE9.out⟩
                  case measure => (simp [intOf] <;> omega)
                  --END V5
                · --BEGIN W5
                  have dz : ((pcd : Int) == 0) = false := by simp; omega
                  clear hz hbt har2 har hc0' hptt hP11 hX11 hB11 hpcd hplen2 htt hxx
                  go_wp2_with (first | (go_at_call 12; refine hold ?_))
                  unfold Hid
                  refine calls_nm fun w12 hw12 => ?_
                  have B12 : Below w11.heap.size w11 w12 := by rw [hw12]; (repeat (first | with_reducible exact Below.rf _ | with_reducible exact World.below_ext _ _ | with_reducible refine Below.ex ?_ _ | with_reducible refine Below.al ?_ _ | with_reducible refine Below.setCell ?_ (by simp) _ | with_reducible refine Below.drew ?_))
                  have HP12 := hid (HP11.out.below B12)
                  clear hw12 B12 HP11
                  refine (HP12.out.call2 HS.out hin (by omega) (HN2.out i hin)).mono ?_
                  rintro e w9 ⟨l9, m9, av, rfl, hD9, hIv9, hl9, hk9⟩
                  have P9 := HP12.out.next (o i) hD9 hl9 hk9
                  have HIV9 := hid (step_inv D2 (o i) HINV.out P9.fok)
                  have HCE9 := hid (step_cel D2 (o i) HCEL.out (fun X hX => (HINV.out X hX).1))
                  have HP9 := hid P9
                  clear P9 hD9 hIv9 hl9 hk9
                  go_wp2
                  go_roundw
                  case rel => exact ⟨i + 1, (c + 1) + 1, l9, m9, _, by go_num, by omega, by omega, HP9.out, HIV9.out, HCE9.out⟩
                  case measure => (simp [intOf] <;> omega)
                  --END W5
                --END Q5
              --END E5
              --END G5
            · --BEGIN D5
              have d24 : decide ((o i).D ≤ 24) = false := by simp; omega
              clear f1 f2 f3 hF hT hPP hW hD24
              go_wp2_with (first | (go_at_call 30; refine (CL.out _ (by (repeat (first | with_reducible exact Below.rf _ | with_reducible exact World.below_ext _ _ | with_reducible refine Below.ex ?_ _ | with_reducible refine Below.al ?_ _ | with_reducible refine Below.setCell ?_ (by simp) _ | with_reducible refine Below.drew ?_)))).mono ?_; rintro e w' ⟨rfl, hw'⟩; obtain rfl := hw'.symm) | (go_at_call 12; refine hold ?_))
              unfold Hid
              refine calls_nm fun w4 hw4 => ?_
              have B4 : Below wr.heap.size wr w4 := by rw [hw4]; (repeat (first | with_reducible exact Below.rf _ | with_reducible exact World.below_ext _ _ | with_reducible refine Below.ex ?_ _ | with_reducible refine Below.al ?_ _ | with_reducible refine Below.setCell ?_ (by simp) _ | with_reducible refine Below.drew ?_))
              have HP4 := hid ((HP.out.relab hud).below B4)
              clear hw4 B4 HP
              refine (HP4.out.call2 HS.out hin (by omega) (HN2.out i hin)).mono ?_
              rintro e w9 ⟨l9, m9, av, rfl, hD9, hIv9, hl9, hk9⟩
              have P9 := HP4.out.next (o i) hD9 hl9 hk9
              have HIV9 := hid (step_inv D (o i) HINV.out P9.fok)
              have HCE9 := hid (step_cel D (o i) HCEL.out (fun X hX => (HINV.out X hX).1))
              have HP9 := hid P9
              clear P9 hD9 hIv9 hl9 hk9
              go_wp2
              go_roundw
              case rel => exact ⟨i + 1, c + 1, l9, m9, _, by go_num, by omega, by omega, HP9.out, HIV9.out, HCE9.out⟩
              case measure => (simp [intOf] <;> omega)
              --END D5
          · --BEGIN C5
            have d20 : decide ((X.F.n : Int) ≤ 20) = false := by simp; omega
            have d20n : decide (X.F.n ≤ 20) = false := by simp; omega
            clear f1 f2 f3 hF hT hPP hW hn20
            go_wp2_with (first | (go_at_call 30; refine (CL.out _ (by (repeat (first | with_reducible exact Below.rf _ | with_reducible exact World.below_ext _ _ | with_reducible refine Below.ex ?_ _ | with_reducible refine Below.al ?_ _ | with_reducible refine Below.setCell ?_ (by simp) _ | with_reducible refine Below.drew ?_)))).mono ?_; rintro e w' ⟨rfl, hw'⟩; obtain rfl := hw'.symm) | (go_at_call 12; refine hold ?_))
            unfold Hid
            refine calls_nm fun w4 hw4 => ?_
            have B4 : Below wr.heap.size wr w4 := by rw [hw4]; (repeat (first | with_reducible exact Below.rf _ | with_reducible exact World.below_ext _ _ | with_reducible refine Below.ex ?_ _ | with_reducible refine Below.al ?_ _ | with_reducible refine Below.setCell ?_ (by simp) _ | with_reducible refine Below.drew ?_))
            have HP4 := hid ((HP.out.relab hud).below B4)
            clear hw4 B4 HP
            refine (HP4.out.call2 HS.out hin (by omega) (HN2.out i hin)).mono ?_
            rintro e w9 ⟨l9, m9, av, rfl, hD9, hIv9, hl9, hk9⟩
            have P9 := HP4.out.next (o i) hD9 hl9 hk9
            have HIV9 := hid (step_inv D (o i) HINV.out P9.fok)
            have HCE9 := hid (step_cel D (o i) HCEL.out (fun X hX => (HINV.out X hX).1))
            have HP9 := hid P9
            clear P9 hD9 hIv9 hl9 hk9
            go_wp2
            go_roundw
            case rel => exact ⟨i + 1, c + 1, l9, m9, _, by go_num, by omega, by omega, HP9.out, HIV9.out, HCE9.out⟩
            case measure => (simp [intOf] <;> omega)
            --END C5
      have dK5 : ((o i).K == 5) = false := by simp [hK5]
      by_cases hK6 : (o i).K = 6
      · have dK6 : ((o i).K == 6) = true := by simp [hK6]
        have HK := hid hK6
        clear hK5 hK6
        have hw := HP.out.dk.wd
        cases hW : D.W with
        | none =>
          --BEGIN N6
          rw [hW] at hw
          have d0 : wr.cell? ⟨d, 0, none⟩ = some (.pointer none) := by
            rw [HP.out.dk.b.is 0 (by omega)]
            show some m.fv = _
            rw [hw.1]
          clear hw hW
          go_wp2_with (first | fail | (go_at_call 12; refine hold ?_))
          unfold Hid
          refine calls_nm fun w4 hw4 => ?_
          have B4 : Below wr.heap.size wr w4 := by rw [hw4]; (repeat (first | with_reducible exact Below.rf _ | with_reducible exact World.below_ext _ _ | with_reducible refine Below.ex ?_ _ | with_reducible refine Below.al ?_ _ | with_reducible refine Below.setCell ?_ (by simp) _ | with_reducible refine Below.drew ?_))
          have HP4 := hid ((HP.out.relab hud).below B4)
          clear hw4 B4 HP
          refine (HP4.out.call2 HS.out hin (by omega) (HN2.out i hin)).mono ?_
          rintro e w9 ⟨l9, m9, av, rfl, hD9, hIv9, hl9, hk9⟩
          have P9 := HP4.out.next (o i) hD9 hl9 hk9
          have HIV9 := hid (step_inv D (o i) HINV.out P9.fok)
          have HCE9 := hid (step_cel D (o i) HCEL.out (fun X hX => (HINV.out X hX).1))
          have HP9 := hid P9
          clear P9 hD9 hIv9 hl9 hk9
          go_wp2
          go_roundw
          case rel => exact ⟨i + 1, c + 1, l9, m9, _, by go_num, by omega, by omega, HP9.out, HIV9.out, HCE9.out⟩
          case measure => (simp [intOf] <;> omega)
          --END N6
        | some X =>
          rw [hW] at hw
          obtain ⟨fb, M, N, nn, f1, f2, f3, hF, hT, hPP⟩ := hw
          have d0 : wr.cell? ⟨d, 0, none⟩ = some (.pointer (some ⟨fb, 0, none⟩)) := by
            rw [HP.out.dk.b.is 0 (by omega)]
            show some m.fv = _
            rw [f1]
          have CL : Hid (∀ w' : World, Below wr.heap.size wr w' → Calls Try.prog 30 #[.pointer (some ⟨fb, 0, none⟩)] w' fun e w'' => e = .returned (.int .i64 (X.F.n)) ∧ w'' = w') := fun w' h => cells_any fb X.F lab w' (hF.below h)
          have hfn := hF.ok.n
          by_cases hn20 : X.F.n ≤ 20
          · have d20 : decide ((X.F.n : Int) ≤ 20) = true := by simp; omega
            have d20n : decide (X.F.n ≤ 20) = true := by simp; omega
            by_cases hD24 : (o i).D ≤ 24
            · have d24 : decide ((o i).D ≤ 24) = true := by simp [hD24]
              --BEGIN G6
              have HF := hid hF
              have HT := hid hT
              have HPP := hid hPP
              have HF1 := hid f1
              have HF2 := hid f2
              have HF3 := hid f3
              have HW := hid hW
              have HIV : Hid (Ints wr lab (.slice (lao i) (o i).l.length (lcap i)) (o i).l) := ((HS.out.iv i hin).relab (lab' := lab) (fun b hb _ => Or.inl (HP.out.l0 b hb))).keptL (A := fun _ => False) (KeptL.of_below HP.out.bl) (fun _ h => h.elim)
              have hopi := HS.out.op i hin
              clear f1 f2 f3 hF hT hPP hW
              go_wp2_with (first | (go_at_call 30; refine (CL.out _ (by (repeat (first | with_reducible exact Below.rf _ | with_reducible exact World.below_ext _ _ | with_reducible refine Below.ex ?_ _ | with_reducible refine Below.al ?_ _ | with_reducible refine Below.setCell ?_ (by simp) _ | with_reducible refine Below.drew ?_)))).mono ?_; rintro e w' ⟨rfl, hw'⟩; obtain rfl := hw'.symm) | (go_at_call 33; refine hold ?_))
              unfold Hid
              refine calls_nm fun w4 hw4 => ?_
              have hb4 : Below wr.heap.size wr w4 := by rw [hw4]; (repeat (first | with_reducible exact Below.rf _ | with_reducible exact World.below_ext _ _ | with_reducible refine Below.ex ?_ _ | with_reducible refine Below.al ?_ _ | with_reducible refine Below.setCell ?_ (by simp) _ | with_reducible refine Below.drew ?_))
              have X4 : Blk w4 wr.heap.size 7 (ocell (o i) (.slice (lao i) (o i).l.length (lcap i))) := by
                rw [hw4]
                refine ⟨by (simp <;> omega), fun i hi => ?_, fun i hi => by simp [go_sem, ↓IntWalk.iteOmega]⟩
                rcases (by omega : i = 0 ∨ i = 1 ∨ i = 2 ∨ i = 3 ∨ i = 4 ∨ i = 5 ∨ i = 6) with rfl | rfl | rfl | rfl | rfl | rfl | rfl <;> simp [go_sem, ↓IntWalk.iteOmega, ocell]
              obtain ⟨xb, hxb⟩ : ∃ y, wr.heap.size = y := ⟨_, rfl⟩
              have HXB := hid hxb
              rw [hxb] at X4 ⊢
              refine (request_any (o i) _ lab w4 (HIV.out.keptL (A := fun _ => False) (KeptL.of_below hb4) (fun _ h => h.elim)) (HN2.out i hin)).mono ?_
              rintro e w5 ⟨hb5, hif⟩
              have hb45 : Below wr.heap.size wr w5 := hb4.trans (hb5.mono hb4.size)
              have X5 := X4.below hb5
              have x0 : w5.cell? ⟨xb, 0, none⟩ = some (.int .i64 ((o i).K)) := X5.is 0 (by omega)
              have x1 : w5.cell? ⟨xb, 1, none⟩ = some (.int .i64 ((o i).A)) := X5.is 1 (by omega)
              have x2 : w5.cell? ⟨xb, 2, none⟩ = some (.int .i64 ((o i).B)) := X5.is 2 (by omega)
              have x3 : w5.cell? ⟨xb, 3, none⟩ = some (.int .i64 ((o i).C)) := X5.is 3 (by omega)
              have x4 : w5.cell? ⟨xb, 4, none⟩ = some (.int .i64 ((o i).D)) := X5.is 4 (by omega)
              have x5 : w5.cell? ⟨xb, 5, none⟩ = some (.int .i64 ((o i).E)) := X5.is 5 (by omega)
              have x6 : w5.cell? ⟨xb, 6, none⟩ = some (.slice (lao i) (o i).l.length (lcap i)) := X5.is 6 (by omega)
              have hxl := X5.lt
              have HX5 := hid X5
              have HB45 := hid hb45
              have hl0 : ∀ j, j < wr.heap.size → (fun b => if b < wr.heap.size then lab b else 0) j = lab j := fun j hj => if_pos hj
              have hl1 : ∀ k, w4.heap.size ≤ k → (fun b => if b < wr.heap.size then lab b else 0) k = 0 := fun k hk => if_neg (by have := hb4.size; omega)
              obtain ⟨lb5, hlb5⟩ : ∃ y, (fun b => if b < wr.heap.size then lab b else 0) = y := ⟨_, rfl⟩
              rw [hlb5] at hl0 hl1
              have HL0 := hid hl0
              have hlf : ∀ k, wr.heap.size ≤ k → lb5 k = 0 := fun k hk => by rw [← hlb5]; exact if_neg (by omega)
              have HLF := hid hlf
              clear hw4 hb4 X4 X5 hb45 hxb hlb5 hlf hl0 c0 c1 c2 c3 c4 c5 c6 hsb d0 CL HIV hud d24 d20 d20n hdl
              by_cases hodd : (o i).l.length % 2 = 1
              · --BEGIN O6
                rw [if_pos hodd] at hif
                obtain rfl := hif
                clear hodd hl1 hb5
                go_wp2_with (first | (go_at_call 12; refine hold ?_))
                unfold Hid
                refine calls_nm fun w6 hw6 => ?_
                have B6 : Below w5.heap.size w5 w6 := by rw [hw6]; (repeat (first | with_reducible exact Below.rf _ | with_reducible exact World.below_ext _ _ | with_reducible refine Below.ex ?_ _ | with_reducible refine Below.al ?_ _ | with_reducible refine Below.setCell ?_ (by simp) _ | with_reducible refine Below.drew ?_))
                have HP6 := hid ((HP.out.relab HL0.out).below (HB45.out.trans (B6.mono HB45.out.size)))
                clear hw6 B6 HP
                refine (HP6.out.call2 HS.out hin (by omega) (HN2.out i hin)).mono ?_
                rintro e w9 ⟨l9, m9, av, rfl, hD9, hIv9, hl9, hk9⟩
                have P9 := HP6.out.next (o i) hD9 hl9 hk9
                have HIV9 := hid (step_inv D (o i) HINV.out P9.fok)
                have HCE9 := hid (step_cel D (o i) HCEL.out (fun X hX => (HINV.out X hX).1))
                have HP9 := hid P9
                clear P9 hD9 hIv9 hl9 hk9
                go_wp2
                go_roundw
                case rel => exact ⟨i + 1, c + 1, l9, m9, _, by go_num, by omega, by omega, HP9.out, HIV9.out, HCE9.out⟩
                case measure => (simp [intOf] <;> omega)
                --END O6
              rw [if_neg hodd] at hif
              obtain ⟨gv, rfl, hGA⟩ := hif
              have hG5 := hGA lb5 hl1
              obtain ⟨go, gc, hgv, hgcc⟩ := hG5.ex
              obtain ⟨gn, hgn⟩ : ∃ y, (gls (o i).l).length = y := ⟨_, rfl⟩
              rw [hgn] at hgv
              subst hgv
              have HG5 := hid hG5
              clear hGA hG5 hgn hgcc hodd hl1 hb5
              go_wp2
              refine wp_nm fun w6 hw6 => ?_
              have hb6 : Below w5.heap.size w5 w6 := by rw [hw6]; (repeat (first | with_reducible exact Below.rf _ | with_reducible exact World.below_ext _ _ | with_reducible refine Below.ex ?_ _ | with_reducible refine Below.al ?_ _ | with_reducible refine Below.setCell ?_ (by simp) _ | with_reducible refine Below.drew ?_))
              obtain ⟨q, hq⟩ : ∃ y : Rq, { rqOf (o i) with m := 1048576 } = y := ⟨_, rfl⟩
              obtain ⟨qb, hqb⟩ : ∃ y, w5.heap.size = y := ⟨_, rfl⟩
              have Q6 : Blk w6 w5.heap.size 6 (rq4 q (.slice go gn gc)) := by
                rw [hw6, ← hq]
                refine ⟨by (simp <;> omega), fun i hi => ?_, fun i hi => by simp [go_sem, ↓IntWalk.iteOmega]⟩
                rcases (by omega : i = 0 ∨ i = 1 ∨ i = 2 ∨ i = 3 ∨ i = 4 ∨ i = 5) with rfl | rfl | rfl | rfl | rfl | rfl <;> simp [go_sem, ↓IntWalk.iteOmega, rq4, rqOf]
              rw [hqb] at Q6 ⊢
              have HQB := hid hqb
              have hqm : q.m = 1048576 := by rw [← hq]
              have hqh : q.h ≤ 24 := by rw [← hq]; exact hD24
              have HQG : Hid (q.gl = gls (o i).l) := by unfold Hid; rw [← hq]; rfl
              have HQI : Hid (RqI q) := by
                obtain ⟨hA, hB, hC, hD, hE⟩ := hopi
                unfold Hid
                rw [← hq]
                exact ⟨hA, hB, hC, hD, by unfold I64; simp only; omega⟩
              have HB6 : Hid (Below wr.heap.size wr w6) := HB45.out.trans (hb6.mono HB45.out.size)
              have HX6 := hid (HX5.out.below hb6)
              have HG6 : Hid (GAt w6 lb5 (.slice go gn gc) q.gl) := by unfold Hid; rw [HQG.out]; exact HG5.out.below hb6
              have HQ6 := hid Q6
              have HP6 := hid ((HP.out.relab HL0.out).below HB6.out)
              have d0 : w6.cell? ⟨d, 0, none⟩ = some (.pointer (some ⟨fb, 0, none⟩)) := by
                rw [HP6.out.dk.b.is 0 (by omega)]
                show some m.fv = _
                rw [HF1.out]
              have d1 : w6.cell? ⟨d, 1, none⟩ = some (.pointer (some ⟨M.t, 0, none⟩)) := by
                rw [HP6.out.dk.b.is 1 (by omega)]
                show some m.tv = _
                rw [HF2.out]
              have hdl6 := HP6.out.dk.b.lt
              have HB45s : Hid (wr.heap.size ≤ w5.heap.size) := HB45.out.size
              clear hw6 hb6 hq hqb Q6 x0 x1 x2 x3 x4 x5 x6 hxl HX5 HB45 HG5 hopi hD24
              --BEGIN E6
              have r0 : w6.cell? ⟨qb, 0, none⟩ = some (.int .i64 (q.r)) := HQ6.out.is 0 (by omega)
              have r1 : w6.cell? ⟨qb, 1, none⟩ = some (.int .i64 (q.s)) := HQ6.out.is 1 (by omega)
              have r2 : w6.cell? ⟨qb, 2, none⟩ = some (.int .i64 (q.t)) := HQ6.out.is 2 (by omega)
              have r3 : w6.cell? ⟨qb, 3, none⟩ = some (.slice go gn gc) := HQ6.out.is 3 (by omega)
              have r4 : w6.cell? ⟨qb, 4, none⟩ = some (.int .i64 (q.h)) := HQ6.out.is 4 (by omega)
              have r5 : w6.cell? ⟨qb, 5, none⟩ = some (.int .i64 (q.m)) := HQ6.out.is 5 (by omega)
              have hql := HQ6.out.lt
              have HQM := hid hqm
              have HQH := hid hqh
              clear hqm hqh
              go_region_held3 (fun w' => w'.cell? ⟨d, 0, none⟩ = some (.pointer (some ⟨fb, 0, none⟩)) ∧ w'.cell? ⟨d, 1, none⟩ = some (.pointer (some ⟨M.t, 0, none⟩))) (simp [go_sem, ↓IntWalk.iteOmega, *]) (fail)
              go_wp2_with (first | (go_at_call 34; refine hold ?_))
              unfold Hid
              refine calls_nm fun w7 hw7 => ?_
              have hb7 : Below w6.heap.size w6 w7 := by rw [hw7]; (repeat (first | with_reducible exact Below.rf _ | with_reducible exact World.below_ext _ _ | with_reducible refine Below.ex ?_ _ | with_reducible refine Below.al ?_ _ | with_reducible refine Below.setCell ?_ (by simp) _ | with_reducible refine Below.drew ?_))
              have MO7 : MoAt w7 w6.heap.size fb M.t := by
                rw [hw7]
                exact ⟨by simp [go_sem, ↓IntWalk.iteOmega], by simp [go_sem, ↓IntWalk.iteOmega], by simp⟩
              have hb07 : Below wr.heap.size wr w7 := HB6.out.trans (hb7.mono HB6.out.size)
              have F7 := (HF.out.relab (lab' := lb5) (fun b hb h => by rw [HL0.out b hb]; exact h)).below hb07
              have T7 := (HT.out.relab HL0.out).below hb07
              refine (solve_any w6.heap.size fb M X.F X.T lb5 q (.slice go gn gc) w7 F7 T7 MO7 (HG6.out.below hb7)).mono ?_
              rintro e w8 ⟨hB8, code, arr, rfl, hdis⟩
              have hwb := HP.out.wb X HW.out
              have hag := earliest (S := X.S) HF.out.ok (HINV.out X HW.out).2 (HCEL.out X HW.out) hwb.nr hwb.nc hn20 HQH.out HQM.out hdis
              have hb8 : Below w6.heap.size w6 w8 := hb7.trans (hB8.mono hb7.size)
              have HB8 : Hid (Below wr.heap.size wr w8) := HB6.out.trans (hb8.mono HB6.out.size)
              have HQ8 := hid (HQ6.out.below hb8)
              have HX8 := hid (HX6.out.below hb8)
              have HG8 := hid (HG6.out.below hb8)
              have HP8 := hid (HP6.out.below hb8)
              have HAG := hid hag
              have HWB := hid hwb
              clear hw7 hb7 MO7 hb07 F7 T7 hB8 hdis hag hb8 HQ6 HX6 HG6 HP6 HB6 r0 r1 r2 r3 r4 r5 d0 d1 hdl6 hwb hql
              obtain ⟨p, hp⟩ : ∃ y, (PS.search X.F X.T q X.S).2 = y := ⟨_, rfl⟩
              have hpok := search_pl (T := X.T) (q := q) HF.out.ok HWB.out.ms
              rw [hp] at hpok HAG
              have hpt := hpok.t
              have hplen := hpok.ln
              have hask : (PS.ask X.F X.T q X.S).2 = p := hp
              have HASK := hid hask
              have r0 : w8.cell? ⟨qb, 0, none⟩ = some (.int .i64 (q.r)) := HQ8.out.is 0 (by omega)
              have r1 : w8.cell? ⟨qb, 1, none⟩ = some (.int .i64 (q.s)) := HQ8.out.is 1 (by omega)
              have r2 : w8.cell? ⟨qb, 2, none⟩ = some (.int .i64 (q.t)) := HQ8.out.is 2 (by omega)
              have r3 : w8.cell? ⟨qb, 3, none⟩ = some (.slice go gn gc) := HQ8.out.is 3 (by omega)
              have r4 : w8.cell? ⟨qb, 4, none⟩ = some (.int .i64 (q.h)) := HQ8.out.is 4 (by omega)
              have r5 : w8.cell? ⟨qb, 5, none⟩ = some (.int .i64 (q.m)) := HQ8.out.is 5 (by omega)
              have d2 : w8.cell? ⟨d, 2, none⟩ = some (.pointer (some ⟨N.p, 0, none⟩)) := by
                rw [HP8.out.dk.b.is 2 (by omega)]
                show some m.pv = _
                rw [HF3.out]
              have hql := HQ8.out.lt
              have hdl8 := HP8.out.dk.b.lt
              have HPT := hid hpt
              have HC0 := hid hpok.c0
              have hbs := HT.out.bd.base
              clear hp hpok hask hpt
              have hlx : lb5 xb = 0 := HLF.out xb (by rw [HXB.out]; exact Nat.le_refl _)
              have hlq : lb5 qb = 0 := HLF.out qb (by rw [← HQB.out]; exact HB45s.out)
              have S8 : Hid (∀ (w' : World) (lb' : Nat → Nat), KeptL lb' seaL w8 w' → lb' d = 1 → lb' qb = 0 → (w'.cell? ⟨d, 2, none⟩ = some (.pointer (some ⟨N.p, 0, none⟩)) ∧ w'.cell? ⟨qb, 0, none⟩ = some (.int .i64 (q.r)) ∧ w'.cell? ⟨qb, 1, none⟩ = some (.int .i64 (q.s)) ∧ w'.cell? ⟨qb, 2, none⟩ = some (.int .i64 (q.t)) ∧ w'.cell? ⟨qb, 3, none⟩ = some (.slice go gn gc) ∧ w'.cell? ⟨qb, 4, none⟩ = some (.int .i64 (q.h)) ∧ w'.cell? ⟨qb, 5, none⟩ = some (.int .i64 (q.m)))) := fun w' lb' hk h1 h2 => by
                have hd := hk.block d hdl8 (by rw [h1]; unfold seaL; omega)
                have hq := hk.block qb hql (by rw [h2]; unfold seaL; omega)
                exact ⟨(World.cell?_of_block hd).trans d2, (World.cell?_of_block hq).trans r0, (World.cell?_of_block hq).trans r1, (World.cell?_of_block hq).trans r2, (World.cell?_of_block hq).trans r3, (World.cell?_of_block hq).trans r4, (World.cell?_of_block hq).trans r5⟩
              have hl8d := HP8.out.dk.ld
              have AK : Hid (∀ (w' : World) (lb' : Nat → Nat), (∀ k, k < wr.heap.size → lb' k = lb5 k) → (∀ k, k < w8.heap.size → lb' k = lb5 k) → Below w8.heap.size w8 w' → Calls Try.prog 35 #[.pointer (some ⟨N.p, 0, none⟩), .agg #[.int .i64 ((q).r), .int .i64 ((q).s), .int .i64 ((q).t), .slice go gn gc, .int .i64 ((q).h), .int .i64 ((q).m)]] w' (askPost lb' M N fb (PS.ask X.F X.T q X.S) w')) := fun w' lb' h1 h1' h2 => by
                have hb : Below wr.heap.size wr w' := HB8.out.trans (h2.mono HB8.out.size)
                have h3 : ∀ k, k < wr.heap.size → lb' k = lab k := fun k hk => (h1 k hk).trans (HL0.out k hk)
                exact ask_any M X.T N X.S nn fb X.F lb' q (.slice go gn gc) w' ((HF.out.relab (fun b hb h => by rw [h3 b hb]; exact h)).below hb) ((HT.out.relab h3).below hb) ((HPP.out.relab h3).below hb) ((HG8.out.relab (fun b hb h => by rw [h1' b hb]; exact h)).below h2) HQI.out HWB.out.ms (fun i hi => by have := HWB.out.st i hi; omega)
              go_wp2
              refine region_via (e6R w d c xb N.p m { D with W := some ⟨X.F, X.T, (PS.ask X.F X.T q X.S).1⟩ } (ocell (o i) (.slice (lao i) (o i).l.length (lcap i))) p (.agg #[.int .i64 ((q).r), .int .i64 ((q).s), .int .i64 ((q).t), .slice go gn gc, .int .i64 ((q).h), .int .i64 ((q).m)])) ?_ ?_
              · --BEGIN R6
                refine wp_region_tree 7 (fun w' => w'.cell? ⟨d, 2, none⟩ = some (.pointer (some ⟨N.p, 0, none⟩)) ∧ w'.cell? ⟨qb, 0, none⟩ = some (.int .i64 (q.r)) ∧ w'.cell? ⟨qb, 1, none⟩ = some (.int .i64 (q.s)) ∧ w'.cell? ⟨qb, 2, none⟩ = some (.int .i64 (q.t)) ∧ w'.cell? ⟨qb, 3, none⟩ = some (.slice go gn gc) ∧ w'.cell? ⟨qb, 4, none⟩ = some (.int .i64 (q.h)) ∧ w'.cell? ⟨qb, 5, none⟩ = some (.int .i64 (q.m))) (.q 0 false (.q 1 false (.q 2 false (.q 3 true (.q 4 true (.two 5 6 (.one 6 true (.one 7 false .nil)) (.one 5 true (.one 7 false .nil)))))))) (by kernel_rfl) (by kernel_rfl) (by kernel_rfl) ?_ ?_
                · simp [go_sem, ↓IntWalk.iteOmega, *]
                repeat (first | (refine wpTr_qf (v := ?_) rfl rfl ?_ ?_; rotate_left; focus (intro w; go_simp; (try (with_reducible rfl)); done); try simp only [List.getElem_toArray, List.getElem_cons_zero, List.getElem_cons_succ, Act.put, List.setIfInBounds_toArray, List.set_cons_zero, List.set_cons_succ]) | (refine wpTr_qt (v := ?_) rfl rfl ?_ ?_; rotate_left; focus (intro w hSw; (try dsimp only at hSw); go_simp; (try (with_reducible rfl)); done); try simp only [List.getElem_toArray, List.getElem_cons_zero, List.getElem_cons_succ, Act.put, List.setIfInBounds_toArray, List.set_cons_zero, List.set_cons_succ]))
                refine wpTr_two rfl rfl rfl rfl ?_ ?_
                · --BEGIN Y6
                  intro K hK
                  go_simp
                  go_at_call 35
                  have hbd : Below w8.heap.size w8 w8.drew := (Below.rf w8).drew
                  refine (AK.out _ lb5 (fun _ _ => rfl) (fun _ _ => rfl) hbd).mono ?_
                  rintro e w9 ⟨lab9, N9, n9, v, rfl, hP9, hN9, hl9, hk9, hV⟩
                  obtain ⟨pv, dv, rfl, hIp, hId, -⟩ := hV
                  rw [HASK.out] at hIp hId ⊢
                  obtain ⟨po, pcap, rfl, -⟩ := hIp.ex
                  obtain ⟨dq, dcap, rfl, -⟩ := hId.ex
                  have hk89 : KeptL lb5 seaL w8 w9 := (KeptL.of_below hbd).trans hk9
                  have hb8d : Below wr.heap.size wr w8.drew := HB8.out.trans (hbd.mono HB8.out.size)
                  have P9 := (HP8.out.below hbd).asked HW.out HF1.out HF2.out HF3.out ((HF.out.relab (lab' := lb5) (fun b hb h => by rw [HL0.out b hb]; exact h)).below hb8d) ((HT.out.relab HL0.out).below hb8d) hP9 hN9 hl9 hk9
                  have X9 := HX8.out.keptL hk89 (by rw [hlx]; unfold seaL; omega)
                  refine hK.out _ _ (S8.out _ lb5 hk89 hl8d hlq) ?_
                  clear hK K
                  refine wpTr_one rfl rfl (fun K hK => ?_)
                  go_simp
                  obtain ⟨w10, hw10⟩ : ∃ y, y = w9.alloc (.cells #[.int .u8 0, .int .i64 (0), .slice none 0 0, .slice none 0 0, .int .i64 (0)] 34) := ⟨_, rfl⟩
                  have hb10 : Below w9.heap.size w9 w10 := by rw [hw10]; (repeat (first | with_reducible exact Below.rf _ | with_reducible exact World.below_ext _ _ | with_reducible refine Below.ex ?_ _ | with_reducible refine Below.al ?_ _ | with_reducible refine Below.setCell ?_ (by simp) _ | with_reducible refine Below.drew ?_))
                  have zB := plan_al hw10
                  rw [← hw10]
                  refine hK.out _ _ (fun _ => S8.out _ lb5 (hk89.trans (KeptL.of_below hb10)) hl8d hlq) ?_
                  clear hK K hw10
                  have z0 := zB.is 0 (by omega)
                  have z1 := zB.is 1 (by omega)
                  have z2 := zB.is 2 (by omega)
                  have z3 := zB.is 3 (by omega)
                  have z4 := zB.is 4 (by omega)
                  have g0 := zB.fz 0 (by omega)
                  have g1 := zB.fz 1 (by omega)
                  have g2 := zB.fz 2 (by omega)
                  have g3 := zB.fz 3 (by omega)
                  have g4 := zB.fz 4 (by omega)
                  have zlt := zB.lt
                  refine wpTr_one rfl rfl (fun K hK => ?_)
                  go_simp
                  refine hK.out _ _ (fun h => by cases h) ?_
                  clear hK K
                  refine wpTr_nil ?_
                  refine NoPanic.normal ?_
                  obtain ⟨k1, k2⟩ := plan_set (v0 := .int .u8 p.c) (v1 := .int .i64 (p.t)) (v2 := .slice po p.path.length pcap) (v3 := .slice dq p.done.length dcap) (v4 := .int .i64 (p.x)) zB rfl
                  have hb11 := hb10.trans (k2.to_below (Nat.le_refl _) hb10.size)
                  exact ⟨rfl, _, lab9, po, pcap, .slice dq p.done.length dcap, P9.below hb11, X9.below hb11, k1, by simp only [Act.put, List.setIfInBounds_toArray, List.set_cons_zero, List.set_cons_succ, List.getElem_toArray, List.getElem_cons_zero, List.getElem_cons_succ]⟩
                  --END Y6
                · --BEGIN Z6
                  intro K hK
                  go_simp
                  obtain ⟨w9, hw9⟩ : ∃ y, y = w8.alloc (.cells #[.int .u8 0, .int .i64 (0), .slice none 0 0, .slice none 0 0, .int .i64 (0)] 34) := ⟨_, rfl⟩
                  have hb9 : Below w8.heap.size w8 w9 := by rw [hw9]; (repeat (first | with_reducible exact Below.rf _ | with_reducible exact World.below_ext _ _ | with_reducible refine Below.ex ?_ _ | with_reducible refine Below.al ?_ _ | with_reducible refine Below.setCell ?_ (by simp) _ | with_reducible refine Below.drew ?_))
                  have zB9 := plan_al hw9
                  rw [← hw9]
                  have hb9d : Below w8.heap.size w8 w9.drew := hb9.drew
                  refine hK.out _ _ (S8.out _ lb5 (KeptL.of_below hb9d) hl8d hlq) ?_
                  clear hK K hw9
                  have hu : ∀ k, k < w8.heap.size → upd lb5 w8.heap.size 1 k = lb5 k := fun k hk => upd_ne _ _ (by omega)
                  have hu1 : upd lb5 w8.heap.size 1 w8.heap.size = 1 := upd_at _ _ _
                  obtain ⟨pb, hpb⟩ : ∃ y, w8.heap.size = y := ⟨_, rfl⟩
                  rw [hpb] at zB9 hu1 ⊢
                  obtain ⟨lbB, hlbB⟩ : ∃ y, upd lb5 w8.heap.size 1 = y := ⟨_, rfl⟩
                  rw [hlbB] at hu
                  rw [hpb] at hlbB
                  rw [hlbB] at hu1
                  have hwl : ∀ k, k < wr.heap.size → lbB k = lb5 k := fun k hk => hu k (Nat.lt_of_lt_of_le hk HB8.out.size)
                  refine wpTr_one rfl rfl (fun K hK => ?_)
                  go_simp
                  go_at_call 35
                  refine (AK.out _ lbB hwl hu hb9d).mono ?_
                  rintro e w10 ⟨lab9, N9, n9, v, rfl, hP9, hN9, hl9, hk9, hV⟩
                  obtain ⟨pv, dv, rfl, hIp, hId, -⟩ := hV
                  rw [HASK.out] at hIp hId ⊢
                  obtain ⟨po, pcap, rfl, -⟩ := hIp.ex
                  obtain ⟨dq, dcap, rfl, -⟩ := hId.ex
                  have hk89 : KeptL lbB seaL w8 w10 := ⟨hk9.os.trans hb9d.os, hk9.tape.trans hb9d.tape, hk9.output.trans hb9d.output, Nat.le_trans hb9d.size hk9.size, fun k h1 h2 => (hk9.block k (Nat.lt_of_lt_of_le h1 hb9d.size) h2).trans (hb9d.block k h1)⟩
                  have hb8d : Below wr.heap.size wr w9.drew := HB8.out.trans (hb9d.mono HB8.out.size)
                  have h3 : ∀ k, k < wr.heap.size → lbB k = lab k := fun k hk => (hwl k hk).trans (HL0.out k hk)
                  have P9 := ((HP8.out.relab hu).below hb9d).asked HW.out HF1.out HF2.out HF3.out ((HF.out.relab (lab' := lbB) (fun b hb h => by rw [h3 b hb]; exact h)).below hb8d) ((HT.out.relab h3).below hb8d) hP9 hN9 hl9 hk9
                  have X9 := HX8.out.keptL hk89 (by rw [hu xb HX8.out.lt, hlx]; unfold seaL; omega)
                  have zBd := zB9.below ((Below.rf w9).drew)
                  have zB := zBd.keptL hk9 (by rw [hu1]; unfold seaL; omega)
                  refine hK.out _ _ (fun _ => S8.out _ lbB hk89 ((hu d hdl8).trans hl8d) ((hu qb hql).trans hlq)) ?_
                  clear hK K
                  have z0 := zB.is 0 (by omega)
                  have z1 := zB.is 1 (by omega)
                  have z2 := zB.is 2 (by omega)
                  have z3 := zB.is 3 (by omega)
                  have z4 := zB.is 4 (by omega)
                  have g0 := zB.fz 0 (by omega)
                  have g1 := zB.fz 1 (by omega)
                  have g2 := zB.fz 2 (by omega)
                  have g3 := zB.fz 3 (by omega)
                  have g4 := zB.fz 4 (by omega)
                  have zlt := zB.lt
                  refine wpTr_one rfl rfl (fun K hK => ?_)
                  go_simp
                  refine hK.out _ _ (fun h => by cases h) ?_
                  clear hK K
                  refine wpTr_nil ?_
                  refine NoPanic.normal ?_
                  obtain ⟨k1, k2⟩ := plan_set (v0 := .int .u8 p.c) (v1 := .int .i64 (p.t)) (v2 := .slice po p.path.length pcap) (v3 := .slice dq p.done.length dcap) (v4 := .int .i64 (p.x)) zB rfl
                  have hlp : lab9 pb = 1 := (hl9 pb zBd.lt).trans hu1
                  have hdp : d ≠ pb := by omega
                  have hw0p : w.heap.size ≤ pb := by have := HP8.out.bl.size; omega
                  have hxp : xb ≠ pb := by have := HX8.out.lt; omega
                  exact ⟨rfl, _, lab9, po, pcap, .slice dq p.done.length dcap, P9.kept1 k2 hlp hdp hw0p, X9.kept k2 hxp, k1, by simp only [Act.put, List.setIfInBounds_toArray, List.set_cons_zero, List.set_cons_succ, List.getElem_toArray, List.getElem_cons_zero, List.getElem_cons_succ]⟩
                  --END Z6
                --END R6
              · --BEGIN Q6
                rintro a w11 ⟨pb, lab9, po, pcap, dv, hP11, hX11, hB11, rfl⟩
                simp only [Act.put, List.setIfInBounds_toArray, List.set_cons_zero, List.set_cons_succ]
                have p0 : w11.cell? ⟨pb, 0, none⟩ = some (.int .u8 p.c) := hB11.is 0 (by omega)
                have p1 : w11.cell? ⟨pb, 1, none⟩ = some (.int .i64 (p.t)) := hB11.is 1 (by omega)
                have p2 : w11.cell? ⟨pb, 2, none⟩ = some (.slice po p.path.length pcap) := hB11.is 2 (by omega)
                have p3 : w11.cell? ⟨pb, 3, none⟩ = some dv := hB11.is 3 (by omega)
                have p4 : w11.cell? ⟨pb, 4, none⟩ = some (.int .i64 (p.x)) := hB11.is 4 (by omega)
                have hpl := hB11.lt
                have x0 : w11.cell? ⟨xb, 0, none⟩ = some (.int .i64 ((o i).K)) := hX11.is 0 (by omega)
                have x1 : w11.cell? ⟨xb, 1, none⟩ = some (.int .i64 ((o i).A)) := hX11.is 1 (by omega)
                have x2 : w11.cell? ⟨xb, 2, none⟩ = some (.int .i64 ((o i).B)) := hX11.is 2 (by omega)
                have x3 : w11.cell? ⟨xb, 3, none⟩ = some (.int .i64 ((o i).C)) := hX11.is 3 (by omega)
                have x4 : w11.cell? ⟨xb, 4, none⟩ = some (.int .i64 ((o i).D)) := hX11.is 4 (by omega)
                have x5 : w11.cell? ⟨xb, 5, none⟩ = some (.int .i64 ((o i).E)) := hX11.is 5 (by omega)
                have x6 : w11.cell? ⟨xb, 6, none⟩ = some (.slice (lao i) (o i).l.length (lcap i)) := hX11.is 6 (by omega)
                have hxl := hX11.lt
                have HP11 := hid hP11
                have hcc := HAG.out.1
                have har := HAG.out.2
                have HINV2 : Hid (Dk.inv { D with W := some ⟨X.F, X.T, (PS.ask X.F X.T q X.S).1⟩ }) := fun Y hY => by
                  simp only [Option.some.injEq] at hY
                  rw [← hY]
                  exact HINV.out X HW.out
                have HCEL2 : Hid (Dk.cel { D with W := some ⟨X.F, X.T, (PS.ask X.F X.T q X.S).1⟩ }) := fun Y hY => by
                  simp only [Option.some.injEq] at hY
                  rw [← hY]
                  exact HCEL.out X HW.out
                clear HINV HCEL
                have HINV := HINV2
                have HCEL := HCEL2
                obtain ⟨D2, hD2⟩ : ∃ y, ({ D with W := some ⟨X.F, X.T, (PS.ask X.F X.T q X.S).1⟩ } : Dk) = y := ⟨_, rfl⟩
                rw [hD2] at HP11 HINV HCEL
                obtain ⟨pcd, hpcd⟩ : ∃ y, p.c = y := ⟨_, rfl⟩
                obtain ⟨plen, hplen2⟩ : ∃ y, p.path.length = y := ⟨_, rfl⟩
                rw [hpcd] at p0 hcc
                rw [hplen2] at p2 har hplen
                have hptt := HPT.out
                have hc0' := HC0.out
                rw [hpcd] at hc0'
                obtain ⟨tt, htt⟩ : ∃ y, p.t = y := ⟨_, rfl⟩
                obtain ⟨xx, hxx⟩ : ∃ y, p.x = y := ⟨_, rfl⟩
                rw [htt] at p1 hptt
                rw [hxx] at p4
                subst hcc
                have hbt : pcd = 0 → -4000000000 ≤ tt ∧ tt ≤ 4000000000 := fun h => by
                  have := (rok_of HF.out.ok (hc0' h).1).t
                  omega
                have har2 : pcd = 0 → tt + (plen : Int) - 1 = arr := fun h => by rw [hptt]; exact har h
                have dcc : ((pcd : Int) != (pcd : Int)) = false := by simp
                by_cases hz : pcd = 0
                · --BEGIN V6
                  have dz : ((pcd : Int) == 0) = true := by simp [hz]
                  have AR : Hid (∀ w' : World, Calls Try.prog 36 #[.agg #[.int .u8 (pcd), .int .i64 (tt), .slice po plen pcap, dv, .int .i64 (xx)]] w' fun e w'' => e = .returned (.int .i64 (arr)) ∧ ∃ z, w'' = w'.ext z) := fun w' => by
                    have := arrival_any pcd tt xx po plen pcap dv w' (hbt hz) (by omega)
                    rw [har2 hz] at this
                    exact this
                  have daa : (arr != arr) = false := by simp
                  clear hz hbt har2 har hc0' hptt hP11 hX11 hB11 hpcd hplen2 htt hxx
                  go_wp2_with (first | (go_at_call 36; refine (AR.out _).mono ?_; rintro e w' ⟨rfl, z, rfl⟩) | (go_at_call 12; refine hold ?_))
                  unfold Hid
                  refine calls_nm fun w12 hw12 => ?_
                  have B12 : Below w11.heap.size w11 w12 := by rw [hw12]; (repeat (first | with_reducible exact Below.rf _ | with_reducible exact World.below_ext _ _ | with_reducible refine Below.ex ?_ _ | with_reducible refine Below.al ?_ _ | with_reducible refine Below.setCell ?_ (by simp) _ | with_reducible refine Below.drew ?_))
                  have HP12 := hid (HP11.out.below B12)
                  clear hw12 B12 HP11
                  refine (HP12.out.call2 HS.out hin (by omega) (HN2.out i hin)).mono ?_
                  rintro e w9 ⟨l9, m9, av, rfl, hD9, hIv9, hl9, hk9⟩
                  have P9 := HP12.out.next (o i) hD9 hl9 hk9
                  have HIV9 := hid (step_inv D2 (o i) HINV.out P9.fok)
                  have HCE9 := hid (step_cel D2 (o i) HCEL.out (fun X hX => (HINV.out X hX).1))
                  have HP9 := hid P9
                  clear P9 hD9 hIv9 hl9 hk9
                  go_wp2
                  go_roundw
                  case rel => exact ⟨i + 1, (c + 1) + 1, l9, m9, _, by go_num, by omega, by omega, HP9.out, HIV9.out, HCE9.out⟩
                  case measure => (simp [intOf] <;> omega)
                  --END V6
                · --BEGIN W6
                  have dz : ((pcd : Int) == 0) = false := by simp; omega
                  clear hz hbt har2 har hc0' hptt hP11 hX11 hB11 hpcd hplen2 htt hxx
                  go_wp2_with (first | (go_at_call 12; refine hold ?_))
                  unfold Hid
                  refine calls_nm fun w12 hw12 => ?_
                  have B12 : Below w11.heap.size w11 w12 := by rw [hw12]; (repeat (first | with_reducible exact Below.rf _ | with_reducible exact World.below_ext _ _ | with_reducible refine Below.ex ?_ _ | with_reducible refine Below.al ?_ _ | with_reducible refine Below.setCell ?_ (by simp) _ | with_reducible refine Below.drew ?_))
                  have HP12 := hid (HP11.out.below B12)
                  clear hw12 B12 HP11
                  refine (HP12.out.call2 HS.out hin (by omega) (HN2.out i hin)).mono ?_
                  rintro e w9 ⟨l9, m9, av, rfl, hD9, hIv9, hl9, hk9⟩
                  have P9 := HP12.out.next (o i) hD9 hl9 hk9
                  have HIV9 := hid (step_inv D2 (o i) HINV.out P9.fok)
                  have HCE9 := hid (step_cel D2 (o i) HCEL.out (fun X hX => (HINV.out X hX).1))
                  have HP9 := hid P9
                  clear P9 hD9 hIv9 hl9 hk9
                  go_wp2
                  go_roundw
                  case rel => exact ⟨i + 1, (c + 1) + 1, l9, m9, _, by go_num, by omega, by omega, HP9.out, HIV9.out, HCE9.out⟩
                  case measure => (simp [intOf] <;> omega)
                  --END W6
                --END Q6
              --END E6
              --END G6
            · --BEGIN D6
              have d24 : decide ((o i).D ≤ 24) = false := by simp; omega
              clear f1 f2 f3 hF hT hPP hW hD24
              go_wp2_with (first | (go_at_call 30; refine (CL.out _ (by (repeat (first | with_reducible exact Below.rf _ | with_reducible exact World.below_ext _ _ | with_reducible refine Below.ex ?_ _ | with_reducible refine Below.al ?_ _ | with_reducible refine Below.setCell ?_ (by simp) _ | with_reducible refine Below.drew ?_)))).mono ?_; rintro e w' ⟨rfl, hw'⟩; obtain rfl := hw'.symm) | (go_at_call 12; refine hold ?_))
              unfold Hid
              refine calls_nm fun w4 hw4 => ?_
              have B4 : Below wr.heap.size wr w4 := by rw [hw4]; (repeat (first | with_reducible exact Below.rf _ | with_reducible exact World.below_ext _ _ | with_reducible refine Below.ex ?_ _ | with_reducible refine Below.al ?_ _ | with_reducible refine Below.setCell ?_ (by simp) _ | with_reducible refine Below.drew ?_))
              have HP4 := hid ((HP.out.relab hud).below B4)
              clear hw4 B4 HP
              refine (HP4.out.call2 HS.out hin (by omega) (HN2.out i hin)).mono ?_
              rintro e w9 ⟨l9, m9, av, rfl, hD9, hIv9, hl9, hk9⟩
              have P9 := HP4.out.next (o i) hD9 hl9 hk9
              have HIV9 := hid (step_inv D (o i) HINV.out P9.fok)
              have HCE9 := hid (step_cel D (o i) HCEL.out (fun X hX => (HINV.out X hX).1))
              have HP9 := hid P9
              clear P9 hD9 hIv9 hl9 hk9
              go_wp2
              go_roundw
              case rel => exact ⟨i + 1, c + 1, l9, m9, _, by go_num, by omega, by omega, HP9.out, HIV9.out, HCE9.out⟩
              case measure => (simp [intOf] <;> omega)
              --END D6
          · --BEGIN C6
            have d20 : decide ((X.F.n : Int) ≤ 20) = false := by simp; omega
            have d20n : decide (X.F.n ≤ 20) = false := by simp; omega
            clear f1 f2 f3 hF hT hPP hW hn20
            go_wp2_with (first | (go_at_call 30; refine (CL.out _ (by (repeat (first | with_reducible exact Below.rf _ | with_reducible exact World.below_ext _ _ | with_reducible refine Below.ex ?_ _ | with_reducible refine Below.al ?_ _ | with_reducible refine Below.setCell ?_ (by simp) _ | with_reducible refine Below.drew ?_)))).mono ?_; rintro e w' ⟨rfl, hw'⟩; obtain rfl := hw'.symm) | (go_at_call 12; refine hold ?_))
            unfold Hid
            refine calls_nm fun w4 hw4 => ?_
            have B4 : Below wr.heap.size wr w4 := by rw [hw4]; (repeat (first | with_reducible exact Below.rf _ | with_reducible exact World.below_ext _ _ | with_reducible refine Below.ex ?_ _ | with_reducible refine Below.al ?_ _ | with_reducible refine Below.setCell ?_ (by simp) _ | with_reducible refine Below.drew ?_))
            have HP4 := hid ((HP.out.relab hud).below B4)
            clear hw4 B4 HP
            refine (HP4.out.call2 HS.out hin (by omega) (HN2.out i hin)).mono ?_
            rintro e w9 ⟨l9, m9, av, rfl, hD9, hIv9, hl9, hk9⟩
            have P9 := HP4.out.next (o i) hD9 hl9 hk9
            have HIV9 := hid (step_inv D (o i) HINV.out P9.fok)
            have HCE9 := hid (step_cel D (o i) HCEL.out (fun X hX => (HINV.out X hX).1))
            have HP9 := hid P9
            clear P9 hD9 hIv9 hl9 hk9
            go_wp2
            go_roundw
            case rel => exact ⟨i + 1, c + 1, l9, m9, _, by go_num, by omega, by omega, HP9.out, HIV9.out, HCE9.out⟩
            case measure => (simp [intOf] <;> omega)
            --END C6
      have dK6 : ((o i).K == 6) = false := by simp [hK6]
      clear hK5 hK6
      --BEGIN A
      go_wp2_with (first | fail | (go_at_call 12; refine hold ?_))
      unfold Hid
      refine calls_nm fun w4 hw4 => ?_
      have B4 : Below wr.heap.size wr w4 := by rw [hw4]; (repeat (first | with_reducible exact Below.rf _ | with_reducible exact World.below_ext _ _ | with_reducible refine Below.ex ?_ _ | with_reducible refine Below.al ?_ _ | with_reducible refine Below.setCell ?_ (by simp) _ | with_reducible refine Below.drew ?_))
      have HP4 := hid ((HP.out.relab hud).below B4)
      clear hw4 B4 HP
      refine (HP4.out.call2 HS.out hin (by omega) (HN2.out i hin)).mono ?_
      rintro e w9 ⟨l9, m9, av, rfl, hD9, hIv9, hl9, hk9⟩
      have P9 := HP4.out.next (o i) hD9 hl9 hk9
      have HIV9 := hid (step_inv D (o i) HINV.out P9.fok)
      have HCE9 := hid (step_cel D (o i) HCEL.out (fun X hX => (HINV.out X hX).1))
      have HP9 := hid P9
      clear P9 hD9 hIv9 hl9 hk9
      go_wp2
      go_roundw
      case rel => exact ⟨i + 1, c + 1, l9, m9, _, by go_num, by omega, by omega, HP9.out, HIV9.out, HCE9.out⟩
      case measure => (simp [intOf] <;> omega)
      --END A
    · have di : decide ((i : Int) < (n : Int)) = false := by simp; omega
      have din : decide (i < n) = false := by simp; omega
      go_wp2
      go_ret
      exact ⟨rfl, HP.out.bl⟩
end Go.Proofs.Qxb6500716a
