/-
  breakPatterns_func, reverseRange_func (the kit's), pdqsort_func: the walk.
-/
import Derived.Test.Qxb6500717aGreatShl
import Derived.Test.Qxb6500717aGreatSo1
import Derived.Test.Qxb6500717aGreatSo2
import Derived.Test.Qxb6500717aGreatSo4
import Derived.Test.Qxb6500717aGreatSo5
import Derived.Test.Qxb6500717aGreatSo6
import Derived.Test.Qxb6500717aGreatSo7
namespace Go.Proofs.Qxb6500717aGreat
open Go.RowKit
set_option linter.unusedSimpArgs false
set_option linter.unusedVariables false
set_option linter.unusedSectionVars false
variable {α : Type} [Inhabited α] {S : Srt α}
theorem sw_kept (enc : α → List Value) (k : Nat) (W : World) (blk off n : Nat) (dk : Array α) (os : Array Obj) : KeptBut blk W (sortWorldK enc k W blk off n dk os) := by
  refine ⟨rfl, rfl, rfl, ?_, fun i hi hb => ?_⟩
  · unfold sortWorldK
    rw [Sort.size_grow, Sort.size_putRowK]
    exact Nat.le_add_right _ _
  · unfold sortWorldK
    rw [Sort.heap_grow_old _ _ (by rw [Sort.size_putRowK]; exact hi)]
    show (W.heap.modify blk _)[i]? = _
    rw [Array.getElem?_modify, if_neg (fun e => hb e.symm)]
theorem St.sw {W : World} {d d' : Array α} (O : S.Ok) (h : S.St W d) (n : Nat) (os : Array Obj) (hs : d'.size = d.size) : S.St (sortWorldK S.enc S.k W S.blk S.off n d' os) d' :=
  ⟨holdsK_sortWorldK S.enc S.k W S.blk S.off n d d' os (h.lt O) h.h hs, h.kb.trans (sw_kept ..), by rw [hs]; exact h.sz⟩
theorem brk_any (O : S.Ok) (a b : Nat) (d : Array α) (W : World) (h : S.St W d) (hab : a ≤ b) (hb : b ≤ S.n) (hs : (Sort.breakPatterns d a b).size = d.size) :
    Calls Tryz.prog 101 #[S.dv, .int .i64 (a), .int .i64 (b)] W (fun e w' => e = .returned (.tuple #[]) ∧ S.St w' (Sort.breakPatterns d a b) ∧ KeptBut S.blk W w') := by
  have hz := h.sz
  have := Any.breakPatterns_func_cells_w (P := Tryz.prog) (ρ := Tryz.laysGg6_ren) { Tryz.laysGg6 with } S.enc S.k O.hk (.func S.g) #[] S.lb S.sf S.sb S.blk S.off a b d W (by rw [hz]; exact O.swap) h.h (h.lt O) hab (by omega) (by have := O.nb; omega)
  refine Calls.mono this ?_
  rintro e w' ⟨rfl, n, os, rfl⟩
  exact ⟨rfl, St.sw O h n os hs, sw_kept ..⟩
theorem rev_any (O : S.Ok) (a b : Nat) (d : Array α) (W : World) (h : S.St W d) (hab : a ≤ b) (hb : b ≤ S.n) (hs : (Sort.reverseRange d a b).size = d.size) :
    Calls Tryz.prog 103 #[S.dv, .int .i64 (a), .int .i64 (b)] W (fun e w' => e = .returned (.tuple #[]) ∧ S.St w' (Sort.reverseRange d a b) ∧ KeptBut S.blk W w') := by
  have hz := h.sz
  have := Any.reverseRange_func_cells_w (P := Tryz.prog) (ρ := Tryz.laysGg6_ren) { Tryz.laysGg6 with } S.enc S.k O.hk (.func S.g) #[] S.lb S.sf S.sb S.blk S.off a b d W (by rw [hz]; exact O.swap) h.h (h.lt O) hab (by omega) (by have := O.nb; omega)
  refine Calls.mono this ?_
  rintro e w' ⟨rfl, n, os, rfl⟩
  exact ⟨rfl, St.sw O h n os hs, sw_kept ..⟩
set_option maxRecDepth 1000000 in
set_option maxHeartbeats 12800000 in
theorem pdq_any (O : S.Ok) (hO : Sort.SWO S.lt) : ∀ (N a b limit : Nat) (d : Array α) (W : World), b - a < N → S.St W d → a ≤ b → b ≤ S.n → limit < 4611686018427387904 → Sort.Below S.lt a b d →
    Calls Tryz.prog 85 #[S.dv, .int .i64 (a), .int .i64 (b), .int .i64 (limit)] W (fun e w' => e = .returned (.tuple #[]) ∧ S.St w' (Sort.pdq S.lt d a b limit true true) ∧ KeptBut S.blk W w') := by
  have eg := O.eg
  have HO := hid O
  have HW := hid hO
  have hnb := O.nb
  intro N
  induction N with
  | zero => intro _ _ _ _ _ h; exact absurd h (Nat.not_lt_zero _)
  | succ N ih =>
    intro a b limit d W hN h hab hb hlimit hBel0
    have HIH := hid ih
    have HD := hid (Srt.Dat.new h O 120)
    have HS := hid (h.al O (.cells #[.func (.func S.g) #[] S.lb, .func (.func S.sf) #[] S.sb] 120))
    have HB0 := hid hBel0
    unfold Srt.dv
    clear h ih hBel0 hO
    go_enter Tryz.func85, Tryz.ntmps85
    go_wp2
    go_loopw [1, 2, 3, 8, 9] (fun s1 s2 s3 s8 s9 wr => ∃ (a' b' lim : Nat) (wb wp : Bool) (dk : Array α), s1 = .int .i64 (a') ∧ s2 = .int .i64 (b') ∧ s3 = .int .i64 (lim) ∧ s8 = .bool wb ∧ s9 = .bool wp ∧ a' ≤ b' ∧ b' ≤ S.n ∧ b' - a' ≤ b - a ∧ lim ≤ limit ∧ Sort.Below S.lt a' b' dk ∧ S.St wr (dk) ∧ S.Dat wr W.heap.size ∧ KeptBut S.blk W wr ∧ Sort.pdq S.lt dk a' b' lim wb wp = Sort.pdq S.lt d a b limit true true) (fun s1 s2 _ _ _ _ => (intOf s2 - intOf s1).toNat)
    case atStart => exact ⟨a, b, limit, true, true, d, rfl, rfl, rfl, rfl, rfl, hab, hb, Nat.le_refl _, Nat.le_refl _, HB0.out, HS.out, HD.out, (KeptBut.refl _ _).al _, rfl⟩
    case round =>
      obtain ⟨a', b', lim, wb, wp, dk, rfl, rfl, rfl, rfl, rfl, hab', hb', hkx, hlim, hBel, hS, hDt, hK, hI⟩ := hrel
      have HBl := hid hBel
      have HIr := hid hI
      clear HS HD HB0 hBel hI
      have HS0 := hid hS
      have HD0 := hid hDt
      have HK0 := hid hK
      have y0 := hDt.c0
      have y9 := hDt.c1
      have z0 := hDt.lt
      clear hS hDt hK
      have hsz := HS0.out.sz
      by_cases h12 : b' - a' ≤ 12
      · have h12z : (b' : Int) - (a' : Int) ≤ 12 := by omega
        have HC := hid (ins_any O a' b' dk wr HS0.out hab' hb')
        unfold Srt.dv at HC
        go_wp2_with (go_at_call 99; refine HC.out.mono ?_; rintro e w1 ⟨rfl, hS, hK0⟩; have HS1 := hid hS; have HKn := hid hK0; clear hS hK0)
        refine bodyPost_ret (v := .tuple #[]) (by simp [results, Tryz.results85, go_sem, ↓IntWalk.iteOmega]) rfl ?_
        exact ⟨rfl, by rw [← HIr.out, Sort.pdq_small h12]; exact HS1.out, HK0.out.trans HKn.out⟩
      · have h12z : ¬ ((b' : Int) - (a' : Int) ≤ 12) := by omega
        by_cases hl0 : lim = 0
        · subst hl0
          have HC := hid (heap_any O a' b' dk wr HS0.out (by omega) hb')
          unfold Srt.dv at HC
          go_wp2_with (go_at_call 100; refine HC.out.mono ?_; rintro e w1 ⟨rfl, hS, hK0⟩; have HS1 := hid hS; have HKn := hid hK0; clear hS hK0)
          refine bodyPost_ret (v := .tuple #[]) (by simp [results, Tryz.results85, go_sem, ↓IntWalk.iteOmega]) rfl ?_
          exact ⟨rfl, by rw [← HIr.out, Sort.pdq_heap h12 rfl]; exact HS1.out, HK0.out.trans HKn.out⟩
        · have hl0z : ¬ ((lim : Int) = 0) := by omega
          obtain ⟨s1, B1, hc1, s2, B2, hpv, s3, B3⟩ := Sort.rd_facts (lt := S.lt) (limit := lim) (wb := wb) (wp := wp) HW.out Sort.partialInsertionSort_holds Sort.reverseRange_holds (show a' < b' by omega) (show b' ≤ dk.size by omega) HBl.out
          have HR := hid (And.intro s1 (And.intro s2 s3))
          have HB3 := hid B3
          clear s1 s2 s3 B1 B2 B3
          go_upto_if 35 with fail
          go_cut [3] from 19 (fun x3 wc => x3 = .int .i64 ((Sort.rd S.lt dk a' b' lim wb wp).lim) ∧ S.St wc ((Sort.rd S.lt dk a' b' lim wb wp).d1) ∧ S.Dat wc W.heap.size ∧ KeptBut S.blk W wc)
          case first =>
            cases wb
            · have HC := hid (brk_any O a' b' dk wr HS0.out hab' hb' HR.out.1)
              unfold Srt.dv at HC
              go_wp2_with (go_at_call 101; refine HC.out.mono ?_; rintro e w1 ⟨rfl, hS, hK0⟩; have HS1 := hid hS; have HKn := hid hK0; clear hS hK0)
              go_meet
              case rel =>
                refine ⟨?_, HS1.out, HD0.out.kept HKn.out, HK0.out.trans HKn.out⟩
                show Value.int .i64 ((lim : Int) - 1) = Value.int .i64 ((lim - 1 : Nat) : Int)
                congr 1
                omega
            · go_wp2_with fail
              go_meet
              case rel => exact ⟨rfl, HS0.out, HD0.out, HK0.out⟩
          case rest =>
            obtain ⟨rfl, hS, hDt, hK⟩ := hcut
            clear HS0 HD0 HK0 y0 y9 z0
            have HS2 := hid hS
            have HD2 := hid hDt
            have HK2 := hid hK
            have y0 := hDt.c0
            have y9 := hDt.c1
            have z0 := hDt.lt
            clear hS hDt hK
            have HC := hid (pivot_any O a' b' (Sort.rd S.lt dk a' b' lim wb wp).d1 wc HS2.out (by omega) hb')
            unfold Srt.dv cpPost at HC
            rw [← Sort.rd_c] at HC
            go_upto_if 50 with (go_at_call 102; refine HC.out.mono ?_; rintro e w2 ⟨rfl, hS, hK0⟩; have HS3 := hid hS; have HK3 := hid (HK2.out.trans hK0); have HD3 := hid (HD2.out.kept hK0); have y3 := (HD2.out.kept hK0).c0; have y4 := (HD2.out.kept hK0).c1; have z3 := (HD2.out.kept hK0).lt; clear hS hK0)
            clear HC HS2 HD2 HK2 y0 y9 z0
            go_cut [11, 12] from 19 (fun x11 x12 wc => x11 = .int .i64 ((Sort.rd S.lt dk a' b' lim wb wp).pivot) ∧ x12 = .int .i64 (hintN (Sort.rd S.lt dk a' b' lim wb wp).hint) ∧ S.St wc ((Sort.rd S.lt dk a' b' lim wb wp).d2) ∧ S.Dat wc W.heap.size ∧ KeptBut S.blk W wc)
            case first =>
              by_cases hh : (Sort.rd S.lt dk a' b' lim wb wp).c.2 = .decreasing
              · have hcode : hintN (Sort.rd S.lt dk a' b' lim wb wp).c.2 = 2 := by rw [hh]; rfl
                obtain ⟨f2, fpv, fht⟩ := Sort.rd_dec hh
                have HC := hid (rev_any O a' b' (Sort.rd S.lt dk a' b' lim wb wp).d1 w2 HS3.out hab' hb' (by rw [← f2, HR.out.2.1, HR.out.1]))
                have HF := hid (And.intro f2 (And.intro fpv fht))
                unfold Srt.dv at HC
                clear f2 fpv fht hh
                go_wp2_with (go_at_call 103; refine HC.out.mono ?_; rintro e w4 ⟨rfl, hS, hK0⟩; have HS4 := hid hS; have HKn := hid hK0; clear hS hK0)
                go_meet
                case rel =>
                  refine ⟨?_, by rw [HF.out.2.2]; rfl, by rw [HF.out.1]; exact HS4.out, HD3.out.kept HKn.out, HK3.out.trans HKn.out⟩
                  rw [HF.out.2.1]
                  congr 1
                  omega
              · have hcode : ¬ (hintN (Sort.rd S.lt dk a' b' lim wb wp).c.2 = 2) := fun h => hh (by revert h; cases (Sort.rd S.lt dk a' b' lim wb wp).c.2 <;> simp [hintN])
                have HF := hid (Sort.rd_not hh)
                clear hh
                go_wp2_with fail
                go_meet
                case rel => exact ⟨by rw [HF.out.2.1], by rw [HF.out.2.2], by rw [HF.out.1]; exact HS3.out, HD3.out, HK3.out⟩
            case rest =>
              obtain ⟨rfl, rfl, hS, hDt, hK⟩ := hcut
              clear HS3 HD3 HK3 y3 y4 z3
              have HS4 := hid hS
              have HD4 := hid hDt
              have HK4 := hid hK
              have y0 := hDt.c0
              have y9 := hDt.c1
              have z0 := hDt.lt
              clear hS hDt hK
              go_upto_region 16 with fail
              go_cut [12, 68] from 19 (fun x12 x68 wx => x12 = .int .i64 (hintN (Sort.rd S.lt dk a' b' lim wb wp).hint) ∧ x68 = .bool (wb && wp && decide ((Sort.rd S.lt dk a' b' lim wb wp).hint = .increasing)) ∧ wx = wc)
              case first =>
                cases wb <;> cases wp <;> cases hh3 : (Sort.rd S.lt dk a' b' lim _ _).hint <;>
                  (have hcode3 := congrArg hintN hh3
                   simp only [hintN] at hcode3
                   go_wp2_with fail
                   go_meet
                   exact ⟨by simp [hh3, hintN], by simp [hh3, hintN], rfl⟩)
              case rest =>
                obtain ⟨rfl, rfl, rfl⟩ := hcut
                go_upto_if 68 with fail
                go_cut [] from 19 (fun wx => (Sort.rd S.lt dk a' b' lim wb wp).pi.2 = false ∧ S.St wx ((Sort.rd S.lt dk a' b' lim wb wp).pi.1) ∧ S.Dat wx W.heap.size ∧ KeptBut S.blk W wx)
                case first =>
                  cases h68 : (wb && wp && decide ((Sort.rd S.lt dk a' b' lim wb wp).hint = .increasing))
                  · have epi := Sort.rd_pi_no h68
                    have HE := hid epi
                    clear epi
                    go_wp2_with fail
                    go_meet
                    case rel => exact ⟨by rw [HE.out], by rw [HE.out]; exact HS4.out, HD4.out, HK4.out⟩
                  · have epi := Sort.rd_pi_yes h68
                    have HC := hid (pins_any O a' b' (Sort.rd S.lt dk a' b' lim wb wp).d2 wc HS4.out (by omega) hb')
                    rw [← epi] at HC
                    unfold Srt.dv at HC
                    clear epi
                    cases hp2 : (Sort.rd S.lt dk a' b' lim wb wp).pi.2
                    · rw [hp2] at HC
                      go_wp2_with (go_at_call 104; refine HC.out.mono ?_; rintro e w5 ⟨rfl, hS, hK0⟩; have HS5 := hid hS; have HKn := hid hK0; clear hS hK0)
                      go_meet
                      case rel => exact ⟨hp2, HS5.out, HD4.out.kept HKn.out, HK4.out.trans HKn.out⟩
                    · rw [hp2] at HC
                      have HP := hid hp2
                      go_wp2_with (go_at_call 104; refine HC.out.mono ?_; rintro e w5 ⟨rfl, hS, hK0⟩; have HS5 := hid hS; have HKn := hid hK0; clear hS hK0)
                      refine bodyPost_ret (v := .tuple #[]) (by simp [results, Tryz.results85, go_sem, ↓IntWalk.iteOmega]) rfl ?_
                      exact ⟨rfl, by rw [← HIr.out, Sort.pdq_done h12 hl0 HP.out]; exact HS5.out, HK4.out.trans HKn.out⟩
                case rest =>
                  obtain ⟨hp2, hS, hDt, hK⟩ := hcut
                  have HP := hid hp2
                  clear hp2 HS4 HD4 HK4 y0 y9 z0
                  have HS6 := hid hS
                  have HD6 := hid hDt
                  have HK6 := hid hK
                  have y0 := hDt.c0
                  have y9 := hDt.c1
                  have z0 := hDt.lt
                  clear hS hDt hK
                  go_upto_region 18 with fail
                  go_cut [83] from 19 (fun x83 wx => x83 = .bool (decide (a' > 0) && !S.lt (Sort.rd S.lt dk a' b' lim wb wp).pi.1[a' - 1]! (Sort.rd S.lt dk a' b' lim wb wp).pi.1[(Sort.rd S.lt dk a' b' lim wb wp).pivot]!) ∧ S.St wx ((Sort.rd S.lt dk a' b' lim wb wp).pi.1) ∧ S.Dat wx W.heap.size ∧ KeptBut S.blk W wx)
                  case first =>
                    rcases Nat.eq_zero_or_pos a' with ha0 | ha0
                    · have ha0z : decide ((a' : Int) > 0) = false := decide_eq_false (by omega)
                      go_wp2_with fail
                      go_meet
                      case rel => exact ⟨by simp [ha0], HS6.out, HD6.out, HK6.out⟩
                    · have ha0z : (a' : Int) > 0 := by omega
                      cases hlv : S.lt (Sort.rd S.lt dk a' b' lim wb wp).pi.1[a' - 1]! (Sort.rd S.lt dk a' b' lim wb wp).pi.1[(Sort.rd S.lt dk a' b' lim wb wp).pivot]! <;>
                        (have HL := hid (O.lessI _ _ HS6.out ((a' : Int) - 1) (((Sort.rd S.lt dk a' b' lim wb wp).pivot : Nat) : Int) (a' - 1) (Sort.rd S.lt dk a' b' lim wb wp).pivot _ (by omega) rfl (by omega) (by omega) hlv)
                         go_wp2_with (go_at_fn S.g; refine HL.out.mono ?_; rintro e w7 ⟨rfl, hS, hK0⟩; have HS7 := hid hS; have HKn := hid hK0; clear hS hK0)
                         go_meet
                         exact ⟨by simp [ha0, hlv], HS7.out, HD6.out.kept HKn.out, HK6.out.trans HKn.out⟩)
                  case rest =>
                    obtain ⟨rfl, hS, hDt, hK⟩ := hcut
                    clear HS6 HD6 HK6 y0 y9 z0
                    have HS8 := hid hS
                    have HD8 := hid hDt
                    have HK8 := hid hK
                    have y0 := hDt.c0
                    have y9 := hDt.c1
                    have z0 := hDt.lt
                    clear hS hDt hK
                    cases h87 : (decide (a' > 0) && !S.lt (Sort.rd S.lt dk a' b' lim wb wp).pi.1[a' - 1]! (Sort.rd S.lt dk a' b' lim wb wp).pi.1[(Sort.rd S.lt dk a' b' lim wb wp).pivot]!)
                    · obtain ⟨mid, ap, d4, hx⟩ : ∃ mid ap d4, Sort.partition S.lt (Sort.rd S.lt dk a' b' lim wb wp).pi.1 a' b' (Sort.rd S.lt dk a' b' lim wb wp).pivot = (mid, ap, d4) := ⟨_, _, _, rfl⟩
                      obtain ⟨r1, r2, r3, r4, r5, r6, r7⟩ := Sort.round_part HW.out (Sort.partition_holds S.lt) hpv.1 hpv.2 (show b' ≤ (Sort.rd S.lt dk a' b' lim wb wp).pi.1.size by rw [HR.out.2.2]; omega) HB3.out hx
                      have HC := hid (part_any O a' b' (Sort.rd S.lt dk a' b' lim wb wp).pivot (Sort.rd S.lt dk a' b' lim wb wp).pi.1 wc HS8.out hpv.1 hpv.2 hb')
                      rw [hx] at HC
                      unfold Srt.dv at HC
                      have HX := hid hx
                      have H87 := hid h87
                      have HRR := hid (And.intro r3 (And.intro r4 (And.intro r5 (And.intro r6 r7))))
                      clear hx r3 r4 r5 r6 r7
                      go_upto_if 109 with (go_at_call 106; refine HC.out.mono ?_; rintro e w9 ⟨rfl, hS, hK0⟩; have HS9 := hid hS; have HK9 := hid (HK8.out.trans hK0); have HD9 := hid (HD8.out.kept hK0); have y3 := (HD8.out.kept hK0).c0; have y4 := (HD8.out.kept hK0).c1; have z3 := (HD8.out.kept hK0).lt; clear hS hK0)
                      obtain ⟨r3, r4, r5, r6, r7⟩ := HRR.out
                      have hd4 := HS9.out.sz
                      have hli : (Sort.rd S.lt dk a' b' lim wb wp).lim < 4611686018427387904 := Nat.lt_of_le_of_lt (Nat.le_trans Sort.rd_lim_le hlim) hlimit
                      by_cases h4 : mid - a' < b' - mid
                      · have h4z : (mid : Int) - (a' : Int) < (b' : Int) - (mid : Int) := by omega
                        have HI := hid (HIH.out a' mid (Sort.rd S.lt dk a' b' lim wb wp).lim d4 w9 (by omega) HS9.out (by omega) (by omega) hli r4)
                        unfold Srt.dv at HI
                        obtain ⟨pL, sL⟩ := Sort.pdq_sorts S.lt HW.out d4 a' mid (Sort.rd S.lt dk a' b' lim wb wp).lim true true (by omega) (by omega) r4
                        have HB9 := hid (r6 _ pL sL).1
                        clear r3 r4 r5 r6 r7 pL sL
                        go_wp2_with (go_at_call 85; refine HI.out.mono ?_; rintro e wa ⟨rfl, hS, hK0⟩; have HSa := hid hS; have HKn := hid hK0; clear hS hK0)
                        go_roundw
                        case rel =>
                          refine ⟨mid + 1, b', (Sort.rd S.lt dk a' b' lim wb wp).lim, decide (mid - a' ≥ (b' - a') / 8), ap, _, by go_num, rfl, rfl, ?_, rfl, by omega, by omega, by omega, Nat.le_trans Sort.rd_lim_le hlim, HB9.out, HSa.out, HD9.out.kept HKn.out, HK9.out.trans HKn.out, ?_⟩
                          · exact congrArg Value.bool (eighth (by omega) (by omega))
                          · rw [← HIr.out, Sort.pdq_left h12 hl0 HP.out H87.out (by rw [HX.out]; exact ⟨r1, r2⟩) (by rw [HX.out]; exact h4), HX.out]
                        case measure => simp [intOf]; omega
                      · have h4z : ¬ ((mid : Int) - (a' : Int) < (b' : Int) - (mid : Int)) := by omega
                        have HI := hid (HIH.out (mid + 1) b' (Sort.rd S.lt dk a' b' lim wb wp).lim d4 w9 (by omega) HS9.out (by omega) (by omega) hli r5)
                        rw [show ((mid + 1 : Nat) : Int) = (mid : Int) + 1 by omega] at HI
                        unfold Srt.dv at HI
                        obtain ⟨pL, sL⟩ := Sort.pdq_sorts S.lt HW.out d4 (mid + 1) b' (Sort.rd S.lt dk a' b' lim wb wp).lim true true (by omega) (by omega) r5
                        have HB9 := hid (r7 _ pL sL).1
                        clear r3 r4 r5 r6 r7 pL sL
                        go_wp2_with (go_at_call 85; refine HI.out.mono ?_; rintro e wa ⟨rfl, hS, hK0⟩; have HSa := hid hS; have HKn := hid hK0; clear hS hK0)
                        go_roundw
                        case rel =>
                          refine ⟨a', mid, (Sort.rd S.lt dk a' b' lim wb wp).lim, decide (b' - mid ≥ (b' - a') / 8), ap, _, rfl, rfl, rfl, ?_, rfl, by omega, by omega, by omega, Nat.le_trans Sort.rd_lim_le hlim, HB9.out, HSa.out, HD9.out.kept HKn.out, HK9.out.trans HKn.out, ?_⟩
                          · exact congrArg Value.bool (eighth (by omega) (by omega))
                          · rw [← HIr.out, Sort.pdq_right h12 hl0 HP.out H87.out (by rw [HX.out]; exact ⟨r1, r2⟩) (by rw [HX.out]; exact h4), HX.out]
                        case measure => simp [intOf]; omega
                    · have h87' := h87
                      simp only [Bool.and_eq_true, decide_eq_true_eq, Bool.not_eq_true'] at h87'
                      obtain ⟨mid, d4, hx⟩ : ∃ mid d4, Sort.partitionEqual S.lt (Sort.rd S.lt dk a' b' lim wb wp).pi.1 a' b' (Sort.rd S.lt dk a' b' lim wb wp).pivot = (mid, d4) := ⟨_, _, rfl⟩
                      obtain ⟨r1, r2, r3, r4, -⟩ := Sort.round_eq HW.out (Sort.partitionEqual_holds S.lt) h87'.1 hpv.1 hpv.2 (show b' ≤ (Sort.rd S.lt dk a' b' lim wb wp).pi.1.size by rw [HR.out.2.2]; omega) HB3.out h87'.2 hx
                      have HC := hid (partEq_any O a' b' (Sort.rd S.lt dk a' b' lim wb wp).pivot (Sort.rd S.lt dk a' b' lim wb wp).pi.1 wc HS8.out hpv.1 hpv.2 hb')
                      rw [hx] at HC
                      unfold Srt.dv at HC
                      have HX := hid hx
                      have H87 := hid h87
                      have HB4 := hid r4
                      clear hx r3 r4 h87'
                      go_wp2_with (go_at_call 105; refine HC.out.mono ?_; rintro e wa ⟨rfl, hS, hK0⟩; have HSa := hid hS; have HKn := hid hK0; clear hS hK0)
                      go_roundw
                      case rel => exact ⟨mid, b', (Sort.rd S.lt dk a' b' lim wb wp).lim, wb, wp, d4, rfl, rfl, rfl, rfl, rfl, r2, hb', by omega, Nat.le_trans Sort.rd_lim_le hlim, HB4.out, HSa.out, HD8.out.kept HKn.out, HK8.out.trans HKn.out, by rw [← HIr.out, Sort.pdq_eq h12 hl0 HP.out H87.out (by rw [HX.out]; exact ⟨r1, r2⟩), HX.out]⟩
                      case measure => simp [intOf]; omega
end Go.Proofs.Qxb6500717aGreat
