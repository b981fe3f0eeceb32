/-
  HeldWithinCapacity: the law.
-/
import Derived.Test.Qxb6500717aAll
namespace Go.Proofs.Qxb6500717a
open Go.RowKit
set_option linter.unusedSimpArgs false
set_option linter.unusedVariables false
set_option maxRecDepth 20000
set_option maxHeartbeats 4000000

def OrdO (O : Option TabS) : Prop := ∀ T, O = some T → Ord T
theorem Ord.new (nc nr cap : Nat) : Ord (TabS.new nc nr cap) := fun r _ => SOrd.nil 0
theorem Ord.cutT {T : TabS} (h : Ord T) (r t : Int) : Ord (T.cutT r t).2 := by
  unfold TabS.cutT
  split
  · exact h.trunc _ _
  · exact h
theorem Ord.step {T : TabS} (h : Ord T) (hb : TBd T) (o : Opr) : Ord (T.step o).2 := by
  unfold TabS.step
  split
  · exact h.advT _
  · split
    · exact h.reserve _ _ _
    · split
      · exact h.path _ _ _
      · split
        · exact h.stand hb _ _ _
        · split
          · exact h.cutT _ _
          · split
            · exact h.cutT _ _
            · split <;> exact h
theorem OrdO.step {O : Option TabS} (h : OrdO O) (hb : ∀ T, O = some T → TBd T) (o : Opr) : OrdO (stepO O o).2 := by
  intro T hT
  unfold stepO at hT
  split at hT
  · unfold stepNew at hT
    split at hT
    · simp only [Option.some.injEq] at hT
      rw [← hT]; exact Ord.new _ _ _
    · exact h T hT
  · split at hT
    · exact h T hT
    · split at hT
      · cases hT
      · rename_i T0
        simp only [Option.some.injEq] at hT
        rw [← hT]; exact (h T0 rfl).step (hb T0 rfl) o
theorem Desk.bd {w : World} {lab : Nat → Nat} {d k : Nat} {O : Option TabS} (h : Desk w lab d k O) : ∀ T, O = some T → TBd T ∧ Con T := by
  intro T e
  subst e
  obtain ⟨tv, N, S, -, -, -, M, -, h2, h3⟩ := h.ex
  exact ⟨h2.bd, h3⟩

/-- A script is being played. -/
structure Play (w0 wr : World) (lab : Nat → Nat) (d i : Nat) (O : Option TabS) : Prop where
  dk : Desk wr lab d i O
  bl : Below w0.heap.size w0 wr
  l0 : ∀ j, j < w0.heap.size → lab j = 0
theorem Play.below {w0 wr w' : World} {lab : Nat → Nat} {d i : Nat} {O : Option TabS} (h : Play w0 wr lab d i O) (hb : Below wr.heap.size wr w') : Play w0 w' lab d i O :=
  ⟨h.dk.below hb, h.bl.trans (hb.mono h.bl.size), h.l0⟩
theorem Play.next {w0 wr w5 : World} {lab lab5 : Nat → Nat} {d i k : Nat} {O O' : Option TabS} (h : Play w0 wr lab d i O) (hd : Desk w5 lab5 d k O') (hl : ∀ j, j < wr.heap.size → lab5 j = lab j) (hk : KeptL lab tagL wr w5) : Play w0 w5 lab5 d k O' := by
  have hs := h.bl.size
  refine ⟨hd, ⟨by rw [hk.os, h.bl.os], by rw [hk.tape, h.bl.tape], by rw [hk.output, h.bl.output], by have := hk.size; omega, fun j hj => ?_⟩, fun j hj => by rw [hl j (by omega)]; exact h.l0 j hj⟩
  rw [hk.block j (by omega) (by rw [h.l0 j hj]; unfold tagL; omega), h.bl.block j hj]
theorem Play.opr {w0 wr : World} {lab : Nat → Nat} {d i k : Nat} {O : Option TabS} (h : Play w0 wr lab d k O) {sb so n : Nat} {o : Nat → Opr} {lao : Nat → Option Addr} {llen lcap : Nat → Nat} (hS : Scr w0 sb so n o lao llen lcap) (hi : i < n) (hl : llen i ≤ 65536) : OprAt wr lab (o i) (lao i) (llen i) := by
  refine ⟨hS.hC i hi, hS.hn i hi, by omega, fun j c hj => ?_⟩
  obtain ⟨b, a, h1, h2, h3⟩ := hS.hrow i hi j c hj
  exact ⟨b, a, h1, by have := h.bl.size; omega, h.l0 b h2, by rw [World.cell?_of_block (h.bl.block b h2)]; exact h3⟩


theorem law7 (sb so n cap : Nat) (o : Nat → Opr) (lao : Nat → Option Addr) (llen lcap : Nat → Nat) (w : World) (hS : Scr w sb so n o lao llen lcap) (hn : n ≤ 9223372036854775807) :
    Calls Try.prog 7 #[.slice (some ⟨sb, so, none⟩) n cap] w fun e w' => e = .returned (.bool true) ∧ Below w.heap.size w w' := by
  have HS := hid hS
  have SM := hid (small_any sb so n cap o lao llen lcap w hS hn)
  clear hS
  go_enter Try.func7, Try.ntmps7
  go_wp2_with (go_at_call 9; refine hold ?_)
  unfold Hid
  refine SM.out.mono ?_
  rintro e w1 ⟨⟨b, rfl, hsm⟩, hw1⟩
  obtain rfl : w = w1 := hw1.symm
  clear hw1 SM
  cases b with
  | false =>
    go_wp2
    go_ret
    exact ⟨rfl, Below.rf _⟩
  | true =>
  obtain ⟨hn1, hn2⟩ := hsm rfl
  have HN2 := hid hn2
  clear hsm hn2
  go_wp2_with (go_at_call 10; refine hold ?_)
  unfold Hid
  refine (newDesk_any (fun _ => 0) w).mono ?_
  rintro e w2 ⟨d, lab2, rfl, hd2, hl2, hb2⟩
  have P0 := hid (show Play w w2 lab2 d 0 none from ⟨hd2, hb2, fun j hj => hl2 j hj⟩)
  clear hd2 hl2 hb2
  go_wp2
  go_loopw [18] (fun x wr => ∃ (i : Nat) (O : Option TabS) (lab : Nat → Nat), x = .int .i64 (i) ∧ i ≤ n ∧ Play w wr lab d i O ∧ OrdO O) (fun x _ => n - (intOf x).toNat)
  case atStart => exact ⟨0, none, lab2, rfl, by omega, P0.out, fun T h => by cases h⟩
  case round =>
    obtain ⟨i, O, lab, rfl, hi, hp, hO⟩ := hrel
    have HP := hid hp
    have HOO := hid hO
    clear hO
    by_cases hlt : i < n
    · obtain ⟨q0, q1, q2, q3, q4, q5⟩ := (HS.out.below (Nat.le_refl _) hp.bl).cells i hlt
      have lsb := (HS.out.below (Nat.le_refl _) hp.bl).hsb
      clear hp
      go_wp2_with (go_at_call 11; refine hold ?_)
      unfold Hid
      refine (do_any (o i) (lao i) (llen i) (lcap i) lab d i O _ (HP.out.below (by (repeat (first | with_reducible exact Below.rf _ | with_reducible exact World.below_ext _ _ | with_reducible refine Below.ex ?_ _ | with_reducible refine Below.al ?_ _ | with_reducible refine Below.setCell ?_ (by simp) _ | with_reducible refine Below.drew ?_)))).dk (by omega) ((HP.out.below (by (repeat (first | with_reducible exact Below.rf _ | with_reducible exact World.below_ext _ _ | with_reducible refine Below.ex ?_ _ | with_reducible refine Below.al ?_ _ | with_reducible refine Below.setCell ?_ (by simp) _ | with_reducible refine Below.drew ?_)))).opr HS.out hlt (HN2.out i hlt))).mono ?_
      rintro e w5 ⟨c, v, lab5, rfl, hvs, hcode, hdk, hl5, hk5⟩
      obtain ⟨aoA, nA, capA, rfl⟩ := isSl_ex hvs
      clear hvs
      have hp5 := (HP.out.below (by (repeat (first | with_reducible exact Below.rf _ | with_reducible exact World.below_ext _ _ | with_reducible refine Below.ex ?_ _ | with_reducible refine Below.al ?_ _ | with_reducible refine Below.setCell ?_ (by simp) _ | with_reducible refine Below.drew ?_)))).next hdk hl5 hk5
      clear hdk hl5 hk5 q0 q1 q2 q3 q4 q5 lsb
      have ho5 := HOO.out.step (fun T e => (HP.out.dk.bd T e).1) (o i)
      generalize (stepO O (o i)).2 = O5 at hp5 ho5
      have HP5 := hid hp5
      have HO5 := hid ho5
      obtain ⟨tv, N, S, hd, hm, hcn, hto⟩ := hp5.dk.ex
      have c0 := hd.c0
      have ld := hd.lt
      have HCON := hid hp5.dk.bd
      clear hd hm hcn hp5 ho5
      cases O5 with
      | none =>
        have etv : tv = .pointer none := hto
        subst etv
        go_wp2
        go_roundw
        case rel => exact ⟨i + 1, none, lab5, by go_num, by omega, HP5.out, HO5.out⟩
        case measure => simp [intOf]; omega
      | some T =>
        obtain ⟨M, rfl, hT, hC⟩ := hto
        have HT := hid hT
        have hheld := held_len hC
        have hcap := hT.bd.held
        have hcap2 := hT.bd.cap
        have hbase := hT.bd.base
        obtain ⟨tl, htl⟩ : ∃ tl, T.trips.length = tl := ⟨_, rfl⟩
        obtain ⟨sl, hsl⟩ : ∃ sl, T.spans.length = sl := ⟨_, rfl⟩
        rw [htl, hsl] at hheld
        have HTL := hid htl
        have HSL := hid hsl
        clear hT hC htl hsl
        go_wp2_with (go_at_call 25; refine hold ?_)
        unfold Hid
        refine (look_any M T lab5 _ HT.out).mono ?_
        rintro e w6 ⟨v1, v2, rfl, hL1, hL2, hB6⟩
        rw [HTL.out] at hL1
        rw [HSL.out] at hL2
        have HL1 := hid hL1
        have HL2 := hid hL2
        have HB6 := hid hB6
        obtain ⟨ao1, cap1, rfl, lc1, -⟩ := hL1
        obtain ⟨ao2, cap2, rfl, lc2, -⟩ := hL2
        have sb6 := hB6.size
        clear hB6 c0
        have b1 : ((T.held : Int) != (tl : Int) + (sl : Int)) = false := by simp; omega
        have b2 : decide ((T.cap : Int) < (T.held : Int)) = false := by simp; omega
        have HTB := hid (fun w9 (hB : Below w6.heap.size w6 w9) => (HT.out.below HB6.out).below hB)
        go_wp2
        first | with_reducible refine wp_region_ext2 (by kernel_rfl) (by kernel_rfl) ?_ | refine wp_region_ext (by kernel_rfl) (by kernel_rfl) ?_
        repeat (go_big_quiet_step ((go_at_call 27; exact Calls.ext_of_same (capacity_any M T lab5 _ (HTB.out _ (by (repeat (first | with_reducible exact Below.rf _ | with_reducible exact World.below_ext _ _ | with_reducible refine Below.ex ?_ _ | with_reducible refine Below.al ?_ _ | with_reducible refine Below.setCell ?_ (by simp) _ | with_reducible refine Below.drew ?_))))))))
        refine wpQuiet_nil ?_
        rintro _ ⟨z, rfl⟩
        go_wp2
        go_loopw [53] (fun x wz => ∃ j : Nat, x = .int .i64 (j) ∧ j ≤ tl ∧ Below w6.heap.size w6 wz ∧ w6.heap.size < wz.heap.size ∧ wz.cell? ⟨w6.heap.size, 3, none⟩ = some (.slice ao2 sl cap2)) (fun x _ => tl - (intOf x).toNat)
        case atStart => exact ⟨0, rfl, by omega, by (repeat (first | with_reducible exact Below.rf _ | with_reducible exact World.below_ext _ _ | with_reducible refine Below.ex ?_ _ | with_reducible refine Below.al ?_ _ | with_reducible refine Below.setCell ?_ (by simp) _ | with_reducible refine Below.drew ?_)), by simp; omega, by simp [go_sem, ↓IntWalk.iteOmega]⟩
        case round =>
          obtain ⟨j, rfl, hj, hBz, hsz, g3⟩ := hrel
          have HBZ := hid hBz
          by_cases hjl : j < tl
          · have hkl : j < T.trips.length := by rw [HTL.out]; exact hjl
            have hx : T.trips[j]? = some T.trips[j] := List.getElem?_eq_getElem hkl
            have hmem := trips_mem (List.getElem_mem hkl)
            generalize T.trips[j] = x at hx hmem
            obtain ⟨y0, y1, y2⟩ := srow_at _ j x hx
            obtain ⟨ao', cap', e1, -, e2⟩ := HL1.out.below hBz
            simp only [Value.slice.injEq, true_and] at e1
            obtain ⟨rfl, rfl⟩ := e1
            rcases e2 with e2 | ⟨bb, rfl, hb1, hb2, hcc⟩
            · omega
            have p0 := hcc _ _ y0
            have p1 := hcc _ _ y1
            have p2 := hcc _ _ y2
            rw [show 3 * j = j * 3 by omega] at p0 p1 p2
            have HTB2 := hid (fun w9 (hB : Below w6.heap.size w6 w9) => HTB.out w9 hB)
            have d1 : decide ((x.2.2 : Int) < (T.base : Int)) = false := by simp; omega
            have d3 : decide (x.2.2 < T.base) = false := by simp; omega
            have d2 : decide ((T.base : Int) + 256 ≤ (x.2.2 : Int)) = false := by simp; omega
            clear hx hkl y0 y1 y2 hcc hBz
            go_wp2
            first | with_reducible refine wp_region_ext2 (by kernel_rfl) (by kernel_rfl) ?_ | refine wp_region_ext (by kernel_rfl) (by kernel_rfl) ?_
            repeat (go_big_quiet_step ((first | (go_at_call 14; exact Calls.ext_of_same (base_any M T lab5 _ (HTB.out _ (HBZ.out.trans (by (refine Below.mono (B := (World.heap _).size) ?_ (Nat.le_of_lt hsz); (repeat (first | with_reducible exact Below.rf _ | with_reducible exact World.below_ext _ _ | with_reducible refine Below.ex ?_ _ | with_reducible refine Below.al ?_ _ | with_reducible refine Below.setCell ?_ (by simp) _ | with_reducible refine Below.drew ?_)))))))) | (go_at_call 15; exact Calls.ext_of_same (end_any M T lab5 _ (HTB.out _ (HBZ.out.trans (by (refine Below.mono (B := (World.heap _).size) ?_ (Nat.le_of_lt hsz); (repeat (first | with_reducible exact Below.rf _ | with_reducible exact World.below_ext _ _ | with_reducible refine Below.ex ?_ _ | with_reducible refine Below.al ?_ _ | with_reducible refine Below.setCell ?_ (by simp) _ | with_reducible refine Below.drew ?_)))))))))))
            refine wpQuiet_nil ?_
            rintro _ ⟨z, rfl⟩
            go_wp2
            go_roundw
            case rel => exact ⟨j + 1, by go_num, by omega, HBZ.out.trans (by (refine Below.mono (B := (World.heap _).size) ?_ (Nat.le_of_lt hsz); (repeat (first | with_reducible exact Below.rf _ | with_reducible exact World.below_ext _ _ | with_reducible refine Below.ex ?_ _ | with_reducible refine Below.al ?_ _ | with_reducible refine Below.setCell ?_ (by simp) _ | with_reducible refine Below.drew ?_)))), by simp; omega, by simp [go_sem, ↓IntWalk.iteOmega]; exact g3⟩
            case measure => simp [intOf]; omega
          · clear hBz
            go_wp2
            go_loopw [73] (fun x wz => ∃ j : Nat, x = .int .i64 (j) ∧ j ≤ sl ∧ Below w6.heap.size w6 wz ∧ w6.heap.size < wz.heap.size ∧ wz.cell? ⟨w6.heap.size, 3, none⟩ = some (.slice ao2 sl cap2)) (fun x _ => sl - (intOf x).toNat)
            case atStart => exact ⟨0, rfl, by omega, HBZ.out, hsz, g3⟩
            case round =>
              clear g3 hsz HBZ hjl hj
              obtain ⟨j, rfl, hj, hBz, hsz, g3⟩ := hrel
              have HBZ := hid hBz
              by_cases hjl : j < sl
              · cases j with
                | zero =>
                  have hkl : 0 < T.spans.length := by rw [HSL.out]; exact hjl
                  have hx : T.spans[0]? = some T.spans[0] := List.getElem?_eq_getElem hkl
                  have hmem := spans_mem (HO5.out T rfl) (List.getElem_mem hkl)
                  generalize T.spans[0] = x at hx hmem
                  obtain ⟨y0, y1, y2, y3⟩ := qrow_at _ _ x hx
                  obtain ⟨ao', cap', e1, -, e2⟩ := HL2.out.below hBz
                  simp only [Value.slice.injEq, true_and] at e1
                  obtain ⟨rfl, rfl⟩ := e1
                  rcases e2 with e2 | ⟨bb, rfl, hb1, hb2, hcc⟩
                  · omega
                  have p0 := hcc _ _ y0
                  have p1 := hcc _ _ y1
                  have p2 := hcc _ _ y2
                  have p3 := hcc _ _ y3
                  rw [Nat.mul_comm 4] at p0 p1 p2 p3
                  have d1 : decide (x.2.2.1 < T.base) = false := by simp; omega
                  have d2 : decide (x.2.2.2 ≤ x.2.2.1) = false := by simp; omega
                  rw [show 0 * 4 = 0 from rfl] at p0 p1 p2 p3
                  clear hx hkl y0 y1 y2 y3 hcc hBz
                  go_wp2
                  first | with_reducible refine wp_region_ext2 (by kernel_rfl) (by kernel_rfl) ?_ | refine wp_region_ext (by kernel_rfl) (by kernel_rfl) ?_
                  repeat (go_big_quiet_step (((first | (go_at_call 14; exact Calls.ext_of_same (base_any M T lab5 _ (HTB.out _ (HBZ.out.trans (by (refine Below.mono (B := (World.heap _).size) ?_ (Nat.le_of_lt hsz); (repeat (first | with_reducible exact Below.rf _ | with_reducible exact World.below_ext _ _ | with_reducible refine Below.ex ?_ _ | with_reducible refine Below.al ?_ _ | with_reducible refine Below.setCell ?_ (by simp) _ | with_reducible refine Below.drew ?_)))))))) | (go_at_call 15; exact Calls.ext_of_same (end_any M T lab5 _ (HTB.out _ (HBZ.out.trans (by (refine Below.mono (B := (World.heap _).size) ?_ (Nat.le_of_lt hsz); (repeat (first | with_reducible exact Below.rf _ | with_reducible exact World.below_ext _ _ | with_reducible refine Below.ex ?_ _ | with_reducible refine Below.al ?_ _ | with_reducible refine Below.setCell ?_ (by simp) _ | with_reducible refine Below.drew ?_))))))))))))
                  refine wpQuiet_nil ?_
                  rintro _ ⟨z, rfl⟩
                  go_wp2
                  first | with_reducible refine wp_region_ext2 (by kernel_rfl) (by kernel_rfl) ?_ | refine wp_region_ext (by kernel_rfl) (by kernel_rfl) ?_
                  repeat (go_big_quiet_step (fail))
                  refine wpQuiet_nil ?_
                  rintro _ ⟨z, rfl⟩
                  go_wp2
                  go_roundw
                  case rel => exact ⟨0 + 1, by go_num, by omega, HBZ.out.trans (by (refine Below.mono (B := (World.heap _).size) ?_ (Nat.le_of_lt hsz); (repeat (first | with_reducible exact Below.rf _ | with_reducible exact World.below_ext _ _ | with_reducible refine Below.ex ?_ _ | with_reducible refine Below.al ?_ _ | with_reducible refine Below.setCell ?_ (by simp) _ | with_reducible refine Below.drew ?_)))), by simp; omega, by simp [go_sem, ↓IntWalk.iteOmega]; exact g3⟩
                  case measure => simp [intOf]; omega
                | succ m =>
                  have hkl : (m + 1) < T.spans.length := by rw [HSL.out]; exact hjl
                  have hx : T.spans[(m + 1)]? = some T.spans[(m + 1)] := List.getElem?_eq_getElem hkl
                  have hmem := spans_mem (HO5.out T rfl) (List.getElem_mem hkl)
                  generalize T.spans[(m + 1)] = x at hx hmem
                  obtain ⟨y0, y1, y2, y3⟩ := qrow_at _ _ x hx
                  obtain ⟨ao', cap', e1, -, e2⟩ := HL2.out.below hBz
                  simp only [Value.slice.injEq, true_and] at e1
                  obtain ⟨rfl, rfl⟩ := e1
                  rcases e2 with e2 | ⟨bb, rfl, hb1, hb2, hcc⟩
                  · omega
                  have p0 := hcc _ _ y0
                  have p1 := hcc _ _ y1
                  have p2 := hcc _ _ y2
                  have p3 := hcc _ _ y3
                  rw [Nat.mul_comm 4] at p0 p1 p2 p3
                  have d1 : decide (x.2.2.1 < T.base) = false := by simp; omega
                  have d2 : decide (x.2.2.2 ≤ x.2.2.1) = false := by simp; omega
                  have hx' : T.spans[m]? = some (T.spans[m]'(by omega)) := List.getElem?_eq_getElem (by omega)
                  generalize T.spans[m]'(by omega) = x' at hx'
                  obtain ⟨u0, u1, u2, u3⟩ := qrow_at _ _ x' hx'
                  have r0 := hcc _ _ u0
                  have r3 := hcc _ _ u3
                  rw [Nat.mul_comm 4] at r0 r3
                  have hpair := spans_pair (HO5.out T rfl) hx' hx
                  clear hx hkl y0 y1 y2 y3 hcc hBz hx' u0 u1 u2 u3
                  by_cases he : x'.1 = x.1
                  · have hle := hpair he
                    have d3 : decide (x.2.2.1 < x'.2.2.2) = false := by simp; omega
                    have d4 : ((x'.1 : Int) == (x.1 : Int)) = true := by simp [he]
                    clear hpair
                    go_wp2
                    first | with_reducible refine wp_region_ext2 (by kernel_rfl) (by kernel_rfl) ?_ | refine wp_region_ext (by kernel_rfl) (by kernel_rfl) ?_
                    repeat (go_big_quiet_step (((first | (go_at_call 14; exact Calls.ext_of_same (base_any M T lab5 _ (HTB.out _ (HBZ.out.trans (by (refine Below.mono (B := (World.heap _).size) ?_ (Nat.le_of_lt hsz); (repeat (first | with_reducible exact Below.rf _ | with_reducible exact World.below_ext _ _ | with_reducible refine Below.ex ?_ _ | with_reducible refine Below.al ?_ _ | with_reducible refine Below.setCell ?_ (by simp) _ | with_reducible refine Below.drew ?_)))))))) | (go_at_call 15; exact Calls.ext_of_same (end_any M T lab5 _ (HTB.out _ (HBZ.out.trans (by (refine Below.mono (B := (World.heap _).size) ?_ (Nat.le_of_lt hsz); (repeat (first | with_reducible exact Below.rf _ | with_reducible exact World.below_ext _ _ | with_reducible refine Below.ex ?_ _ | with_reducible refine Below.al ?_ _ | with_reducible refine Below.setCell ?_ (by simp) _ | with_reducible refine Below.drew ?_))))))))))))
                    refine wpQuiet_nil ?_
                    rintro _ ⟨z, rfl⟩
                    go_wp2
                    first | with_reducible refine wp_region_ext2 (by kernel_rfl) (by kernel_rfl) ?_ | refine wp_region_ext (by kernel_rfl) (by kernel_rfl) ?_
                    repeat (go_big_quiet_step (fail))
                    refine wpQuiet_nil ?_
                    rintro _ ⟨z, rfl⟩
                    go_wp2
                    go_roundw
                    case rel => exact ⟨m + 1 + 1, by go_num, by omega, HBZ.out.trans (by (refine Below.mono (B := (World.heap _).size) ?_ (Nat.le_of_lt hsz); (repeat (first | with_reducible exact Below.rf _ | with_reducible exact World.below_ext _ _ | with_reducible refine Below.ex ?_ _ | with_reducible refine Below.al ?_ _ | with_reducible refine Below.setCell ?_ (by simp) _ | with_reducible refine Below.drew ?_)))), by simp; omega, by simp [go_sem, ↓IntWalk.iteOmega]; exact g3⟩
                    case measure => simp [intOf]; omega
                  · have d4 : ((x'.1 : Int) == (x.1 : Int)) = false := by simp; omega
                    clear hpair
                    go_wp2
                    first | with_reducible refine wp_region_ext2 (by kernel_rfl) (by kernel_rfl) ?_ | refine wp_region_ext (by kernel_rfl) (by kernel_rfl) ?_
                    repeat (go_big_quiet_step (((first | (go_at_call 14; exact Calls.ext_of_same (base_any M T lab5 _ (HTB.out _ (HBZ.out.trans (by (refine Below.mono (B := (World.heap _).size) ?_ (Nat.le_of_lt hsz); (repeat (first | with_reducible exact Below.rf _ | with_reducible exact World.below_ext _ _ | with_reducible refine Below.ex ?_ _ | with_reducible refine Below.al ?_ _ | with_reducible refine Below.setCell ?_ (by simp) _ | with_reducible refine Below.drew ?_)))))))) | (go_at_call 15; exact Calls.ext_of_same (end_any M T lab5 _ (HTB.out _ (HBZ.out.trans (by (refine Below.mono (B := (World.heap _).size) ?_ (Nat.le_of_lt hsz); (repeat (first | with_reducible exact Below.rf _ | with_reducible exact World.below_ext _ _ | with_reducible refine Below.ex ?_ _ | with_reducible refine Below.al ?_ _ | with_reducible refine Below.setCell ?_ (by simp) _ | with_reducible refine Below.drew ?_))))))))))))
                    refine wpQuiet_nil ?_
                    rintro _ ⟨z, rfl⟩
                    go_wp2
                    first | with_reducible refine wp_region_ext2 (by kernel_rfl) (by kernel_rfl) ?_ | refine wp_region_ext (by kernel_rfl) (by kernel_rfl) ?_
                    repeat (go_big_quiet_step (fail))
                    refine wpQuiet_nil ?_
                    rintro _ ⟨z, rfl⟩
                    go_wp2
                    go_roundw
                    case rel => exact ⟨m + 1 + 1, by go_num, by omega, HBZ.out.trans (by (refine Below.mono (B := (World.heap _).size) ?_ (Nat.le_of_lt hsz); (repeat (first | with_reducible exact Below.rf _ | with_reducible exact World.below_ext _ _ | with_reducible refine Below.ex ?_ _ | with_reducible refine Below.al ?_ _ | with_reducible refine Below.setCell ?_ (by simp) _ | with_reducible refine Below.drew ?_)))), by simp; omega, by simp [go_sem, ↓IntWalk.iteOmega]; exact g3⟩
                    case measure => simp [intOf]; omega
              · clear hBz
                go_wp2
                go_roundw
                case rel => exact ⟨i + 1, some T, lab5, by go_num, by omega, HP5.out.below (HB6.out.trans (HBZ.out.mono sb6)), HO5.out⟩
                case measure => simp [intOf]; omega
    · clear hp
      go_wp2
      go_ret
      exact ⟨rfl, HP.out.bl⟩
end Go.Proofs.Qxb6500717a
