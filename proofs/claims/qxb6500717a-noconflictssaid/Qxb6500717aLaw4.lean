/-
  NoConflicts: the law.
-/
import Derived.Test.Qxb6500717aClash
import Derived.Test.Qxb6500717aSame
namespace Go.Proofs.Qxb6500717a
open Go.RowKit
set_option linter.unusedSimpArgs false
set_option linter.unusedVariables false
set_option maxRecDepth 20000
set_option maxHeartbeats 4000000

/-- The five ticks around a span's ends. -/
def tk (f u : Nat) : Nat → Int
  | 0 => (f : Int) - 1
  | 1 => f
  | 2 => (u : Int) - 2
  | 3 => (u : Int) - 1
  | _ => u
theorem tk_bd {f u : Nat} (hf : f ≤ 2000000000) (hu : u ≤ 1099511627776) (i : Nat) : -10 ≤ tk f u i ∧ tk f u i ≤ 2000000000000 := by
  unfold tk
  split <;> omega

theorem law4 (sb so n cap : Nat) (o : Nat → Opr) (lao : Nat → Option Addr) (llen lcap : Nat → Nat) (w : World) (hS : Scr w sb so n o lao llen lcap) (hn : n ≤ 9223372036854775807) :
    Calls Try.prog 4 #[.slice (some ⟨sb, so, none⟩) n cap] w fun e w' => e = .returned (.bool true) ∧ Below w.heap.size w w' := by
  have HS := hid hS
  have SM := hid (small_any sb so n cap o lao llen lcap w hS hn)
  clear hS
  go_enter Try.func4, Try.ntmps4
  go_wp2_with (go_at_call 9; refine hold ?_)
  unfold Hid
  refine SM.out.mono ?_
  rintro e w1 ⟨⟨b, rfl, hsm⟩, hw1⟩
  obtain rfl : w = w1 := hw1.symm
  clear hw1 SM
  cases b with
  | false =>
    go_wp2
    go_ret
    exact ⟨rfl, Below.rf _⟩
  | true =>
  obtain ⟨hn1, hn2⟩ := hsm rfl
  have HN2 := hid hn2
  clear hsm hn2
  go_wp2_with (go_at_call 10; refine hold ?_)
  unfold Hid
  refine (newDesk_any (fun _ => 0) w).mono ?_
  rintro e w2 ⟨d, lab2, rfl, hd2, hl2, hb2⟩
  have P0 := hid (show Play w w2 lab2 d 0 none from ⟨hd2, hb2, fun j hj => hl2 j hj⟩)
  clear hd2 hl2 hb2
  go_wp2
  go_loopw [18] (fun x wr => ∃ (i : Nat) (O : Option TabS) (lab : Nat → Nat), x = .int .i64 (i) ∧ i ≤ n ∧ Play w wr lab d i O ∧ OrdO O ∧ NocO O) (fun x _ => n - (intOf x).toNat)
  case atStart => exact ⟨0, none, lab2, rfl, by omega, P0.out, (fun T h => by cases h), (fun T h => by cases h)⟩
  case round =>
    obtain ⟨i, O, lab, rfl, hi, hp, hO, hN⟩ := hrel
    have HP := hid hp
    have HOO := hid hO
    have HNN := hid hN
    clear hO hN
    by_cases hlt : i < n
    · obtain ⟨q0, q1, q2, q3, q4, q5⟩ := (HS.out.below (Nat.le_refl _) hp.bl).cells i hlt
      have lsb := (HS.out.below (Nat.le_refl _) hp.bl).hsb
      clear hp
      go_wp2_with (go_at_call 11; refine hold ?_)
      unfold Hid
      refine (do_any (o i) (lao i) (llen i) (lcap i) lab d i O _ (HP.out.below (by (repeat (first | with_reducible exact Below.rf _ | with_reducible exact World.below_ext _ _ | with_reducible refine Below.ex ?_ _ | with_reducible refine Below.al ?_ _ | with_reducible refine Below.setCell ?_ (by simp) _ | with_reducible refine Below.drew ?_)))).dk (by omega) ((HP.out.below (by (repeat (first | with_reducible exact Below.rf _ | with_reducible exact World.below_ext _ _ | with_reducible refine Below.ex ?_ _ | with_reducible refine Below.al ?_ _ | with_reducible refine Below.setCell ?_ (by simp) _ | with_reducible refine Below.drew ?_)))).opr HS.out hlt (HN2.out i hlt))).mono ?_
      rintro e w5 ⟨c, v, lab5, rfl, hvs, hcode, hdk, hl5, hk5⟩
      have hp5 := (HP.out.below (by (repeat (first | with_reducible exact Below.rf _ | with_reducible exact World.below_ext _ _ | with_reducible refine Below.ex ?_ _ | with_reducible refine Below.al ?_ _ | with_reducible refine Below.setCell ?_ (by simp) _ | with_reducible refine Below.drew ?_)))).next hdk hl5 hk5
      have s5 := hk5.size
      simp at s5
      have f0 := hk5.cell (b := wr.heap.size) 0 (by simp) (by rw [HP.out.dk.hl _ (Nat.le_refl _)]; unfold tagL; omega)
      simp [go_sem, ↓IntWalk.iteOmega] at f0
      clear hdk hl5 hk5 q0 q1 q2 q3 q4 q5 lsb hvs hcode
      have ho5 := HOO.out.step (fun T e => (HP.out.dk.bd T e).1) (o i)
      have hn5 := HNN.out.step HOO.out (fun T e => HP.out.dk.bd T e) (o i)
      generalize (stepO O (o i)).2 = O5 at hp5 ho5 hn5
      have HP5 := hid hp5
      have HO5 := hid ho5
      have HNO5 := hid hn5
      obtain ⟨tv, N, S, hd, hm, hcn, hto⟩ := hp5.dk.ex
      have c0 := hd.c0
      have ld := hd.lt
      clear hd hm hcn hp5 ho5 hn5
      cases O5 with
      | none =>
        have etv : tv = .pointer none := hto
        subst etv
        go_wp2
        go_roundw
        case rel => exact ⟨i + 1, none, lab5, by go_num, by omega, HP5.out, HO5.out, HNO5.out⟩
        case measure => simp [intOf]; omega
      | some T =>
        obtain ⟨M, rfl, hT, hC⟩ := hto
        have HT := hid hT
        have HN5 := hid (HNO5.out T rfl)
        have hbase := hT.bd.base
        have hheld := held_len hC
        have hcap := hT.bd.held
        have hcap2 := hT.bd.cap
        have HTB := hid (fun w9 (hB : Below w5.heap.size w5 w9) => hT.below hB)
        obtain ⟨sl, hsl⟩ : ∃ sl, T.spans.length = sl := ⟨_, rfl⟩
        rw [hsl] at hheld
        have HSL := hid hsl
        have hsl2 : sl ≤ 1536 := by omega
        clear hT hC hsl hheld hcap hcap2
        by_cases hK : 7 ≤ (o i).K
        · go_wp2
          go_roundw
          case rel => exact ⟨i + 1, some T, lab5, by go_num, by omega, HP5.out, HO5.out, HNO5.out⟩
          case measure => simp [intOf]; omega
        · go_wp2_with (go_at_call 14; refine (base_any M T lab5 _ HT.out).mono ?_; rintro e w5 ⟨rfl, hw'⟩; obtain rfl := hw')
          go_loopw [7] (fun x wz => ∃ k : Nat, x = .int .i64 (k) ∧ T.base ≤ k ∧ k ≤ T.base + 258 ∧ Below w5.heap.size w5 wz) (fun x _ => T.base + 258 - (intOf x).toNat)
          case atStart => exact ⟨T.base, rfl, Nat.le_refl _, by omega, Below.rf _⟩
          case round =>
            clear f0 c0
            obtain ⟨k, rfl, hk1, hk2, hBz⟩ := hrel
            have HBZ := hid hBz
            have EN := hid (end_any M T lab5 _ (HTB.out _ hBz))
            have sb5 := hBz.size
            clear hBz
            by_cases hkl : k ≤ T.base + 257
            · go_wp2_with (first | (go_at_call 15; refine EN.out.mono ?_; rintro e wr ⟨rfl, hw'⟩; obtain rfl := hw') | (go_at_call 16; refine (clash_no M T lab5 k _ (HTB.out _ HBZ.out) HN5.out (by omega)).mono ?_; rintro e w' ⟨rfl, z9, rfl⟩))
              go_roundw
              case rel => exact ⟨k + 1, by go_num, by omega, by omega, HBZ.out.trans (Below.mono (B := (World.heap _).size) (by (repeat (first | with_reducible exact Below.rf _ | with_reducible exact World.below_ext _ _ | with_reducible refine Below.ex ?_ _ | with_reducible refine Below.al ?_ _ | with_reducible refine Below.setCell ?_ (by simp) _ | with_reducible refine Below.drew ?_))) sb5)⟩
              case measure => simp [intOf]; omega
            · go_wp2_with (first | (go_at_call 15; refine EN.out.mono ?_; rintro e wr ⟨rfl, hw'⟩; obtain rfl := hw') | (go_at_call 17; refine hold ?_))
              unfold Hid
              refine (spans_any M T lab5 _ (HTB.out _ HBZ.out)).mono ?_
              rintro e w6 ⟨v2, rfl, hl2, hb6⟩
              rw [HSL.out] at hl2
              have HL2 := hid hl2
              have HB6 := hid (HBZ.out.trans (hb6.mono sb5))
              obtain ⟨ao2, cap2, rfl, lc2, -⟩ := hl2
              have s6 := HB6.out.size
              clear hb6 EN HBZ sb5 hkl hk1 hk2
              go_wp2
              go_loopw [51] (fun x wz => ∃ j : Nat, x = .int .i64 (j) ∧ j ≤ sl ∧ Below w6.heap.size w6 wz) (fun x _ => sl - (intOf x).toNat)
              case atStart => exact ⟨0, rfl, by omega, Below.rf _⟩
              case round =>
                obtain ⟨j, rfl, hj, hBz⟩ := hrel
                have HBZ := hid hBz
                have sb6 := hBz.size
                by_cases hjl : j < sl
                · have hkl : j < T.spans.length := by rw [HSL.out]; exact hjl
                  have hx : T.spans[j]? = some T.spans[j] := List.getElem?_eq_getElem hkl
                  have hmem := spanN_mem _ _ (List.getElem_mem hkl)
                  generalize T.spans[j] = x at hx hmem
                  have hbd := HT.out.bd.sp x.1 x.2 (by omega) hmem.2
                  obtain ⟨y0, y1, y2, y3⟩ := qrow_at _ j x hx
                  obtain ⟨ao', cap', e1, -, e2⟩ := HL2.out.below hBz
                  simp only [Value.slice.injEq, true_and] at e1
                  obtain ⟨rfl, rfl⟩ := e1
                  rcases e2 with e2 | ⟨bb, rfl, hb1, hb2, hcc⟩
                  · omega
                  have p0 := hcc _ _ y0
                  have p1 := hcc _ _ y1
                  have p2 := hcc _ _ y2
                  have p3 := hcc _ _ y3
                  rw [Nat.mul_comm 4] at p0 p1 p2 p3
                  clear hx hkl y0 y1 y2 y3 hcc hBz hmem
                  have htk := tk_bd (f := x.2.2.1) (u := x.2.2.2) (by omega) (by omega)
                  go_wp2
                  go_loopw [70] (fun x' wz => ∃ m : Nat, x' = .int .i64 (m) ∧ m ≤ 5 ∧ Below w6.heap.size w6 wz ∧ wr.heap.size + 1 < wz.heap.size ∧ (∀ i, i < 5 → wz.cell? ⟨wr.heap.size + 1, i, none⟩ = some (.int .i64 (tk x.2.2.1 x.2.2.2 i)))) (fun x _ => 5 - (intOf x).toNat)
                  case atStart =>
                    refine ⟨0, rfl, by omega, HBZ.out.trans (Below.mono (B := (World.heap _).size) (by (repeat (first | with_reducible exact Below.rf _ | with_reducible exact World.below_ext _ _ | with_reducible refine Below.ex ?_ _ | with_reducible refine Below.al ?_ _ | with_reducible refine Below.setCell ?_ (by simp) _ | with_reducible refine Below.drew ?_))) sb6), by simp, fun i hi => ?_⟩
                    rcases (by omega : i = 0 ∨ i = 1 ∨ i = 2 ∨ i = 3 ∨ i = 4) with rfl | rfl | rfl | rfl | rfl <;> simp [go_sem, ↓IntWalk.iteOmega, tk]
                  case round =>
                    clear p0 p1 p2 p3
                    obtain ⟨m, rfl, hm5, hBy, hsz, hcells⟩ := hrel
                    have HBY := hid hBy
                    have HCE := hid hcells
                    have sb7 := hBy.size
                    by_cases hml : m < 5
                    · have cm := hcells m hml
                      have hbm := htk m
                      generalize tk x.2.2.1 x.2.2.2 m = tv7 at cm hbm
                      clear hBy hcells
                      go_wp2_with (go_at_call 16; refine (clash_no M T lab5 tv7 _ (HTB.out _ (HB6.out.trans (HBY.out.mono s6))) HN5.out hbm).mono ?_; rintro e w' ⟨rfl, z9, rfl⟩)
                      go_roundw
                      case rel =>
                        refine ⟨m + 1, by go_num, by omega, HBY.out.trans (Below.mono (B := (World.heap _).size) (by (repeat (first | with_reducible exact Below.rf _ | with_reducible exact World.below_ext _ _ | with_reducible refine Below.ex ?_ _ | with_reducible refine Below.al ?_ _ | with_reducible refine Below.setCell ?_ (by simp) _ | with_reducible refine Below.drew ?_))) sb7), by simp; omega, fun i hi => ?_⟩
                        rw [World.cell?_ext_old _ _ _ (show _ < _ from by simp only; omega)]
                        exact HCE.out i hi
                      case measure => simp [intOf]; omega
                    · clear hBy hcells
                      go_wp2
                      go_roundw
                      case rel => exact ⟨j + 1, by go_num, by omega, HBY.out⟩
                      case measure => simp [intOf]; omega
                · clear hBz
                  go_wp2
                  go_roundw
                  case rel => exact ⟨i + 1, some T, lab5, by go_num, by omega, HP5.out.below (HB6.out.trans (HBZ.out.mono s6)), HO5.out, HNO5.out⟩
                  case measure => simp [intOf]; omega
    · clear hp
      go_wp2
      go_ret
      exact ⟨rfl, HP.out.bl⟩
end Go.Proofs.Qxb6500717a
