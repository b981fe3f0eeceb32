/-
  partialInsertionSort_func: the walk.
-/
import Derived.Test.Qxb6500717aGreatSo0
namespace Go.Proofs.Qxb6500717aGreat
open Go.RowKit
set_option linter.unusedSimpArgs false
set_option linter.unusedVariables false
set_option linter.unusedSectionVars false
variable {α : Type} [Inhabited α] {S : Srt α}
section
variable {lt : α → α → Bool} {a b s i i2 : Nat} {d : Array α}
theorem pi_true (h1 : i2 = Sort.scanSorted lt d b i) (h : i2 = b) : Sort.partialIns lt a b (s + 1) i d = (d, true) := by
  rw [Sort.partialIns_succ, if_pos (by rw [← h1, h])]
theorem pi_false (h1 : i2 = Sort.scanSorted lt d b i) (h : ¬ i2 = b) (h50 : b - a < 50) : Sort.partialIns lt a b (s + 1) i d = (d, false) := by
  rw [Sort.partialIns_succ, if_neg (by rw [← h1]; exact h), if_pos h50]
theorem pi_go (h1 : i2 = Sort.scanSorted lt d b i) (h : ¬ i2 = b) (h50 : ¬ b - a < 50) : Sort.partialIns lt a b (s + 1) i d = Sort.partialIns lt a b s i2 (Sort.fixUp lt b i2 (Sort.fixDown lt a i2 (Sort.swp d i2 (i2 - 1)))) := by
  rw [Sort.partialIns_succ, if_neg (by rw [← h1]; exact h), if_neg h50, ← h1]
end
set_option maxRecDepth 20000 in
set_option maxHeartbeats 8000000 in
theorem pins_any (O : S.Ok) (a b : Nat) (d : Array α) (W : World) (h : S.St W d) (hab : a < b) (hb : b ≤ S.n) :
    Calls Tryz.prog 104 #[S.dv, .int .i64 (a), .int .i64 (b)] W fun e w' => e = .returned (.bool (Sort.partialInsertionSort S.lt d a b).2) ∧ S.St w' (Sort.partialInsertionSort S.lt d a b).1 ∧ KeptBut S.blk W w' := by
  have eg := O.eg
  have HO := hid O
  have hnb := O.nb
  have HD := hid (Srt.Dat.new h O 120)
  have HS := hid (h.al O (.cells #[.func (.func S.g) #[] S.lb, .func (.func S.sf) #[] S.sb] 120))
  unfold Srt.dv Sort.partialInsertionSort
  clear h
  go_enter Tryz.func104, Tryz.ntmps104
  go_wp2
  go_loopw [7, 8] (fun v x wr => ∃ (st i : Nat) (dk : Array α), v = .int .i64 (i) ∧ x = .int .i64 (st) ∧ st ≤ 5 ∧ a + 1 ≤ i ∧ i ≤ b ∧ S.St wr dk ∧ S.Dat wr W.heap.size ∧ KeptBut S.blk W wr ∧ Sort.partialIns S.lt a b (5 - st) i dk = Sort.partialIns S.lt a b 5 (a + 1) d) (fun _ x _ => 5 - (intOf x).toNat)
  case atStart => exact ⟨0, a + 1, d, by go_num, rfl, by omega, by omega, by omega, HS.out, HD.out, (KeptBut.refl _ _).al _, rfl⟩
  case round =>
    obtain ⟨st, i, dk, rfl, rfl, hst, hai, hib, hS, hDt, hK, hI⟩ := hrel
    have HSr := hid hS
    have HDr := hid hDt
    have HKr := hid hK
    have HIr := hid hI
    clear hS hDt hK hI HS HD
    by_cases e : st < 5
    · have de : decide ((st : Int) < 5) = true := by simp; omega
      go_wp2
      go_loopw [7] (fun v w2 => ∃ i' : Nat, v = .int .i64 (i') ∧ i ≤ i' ∧ i' ≤ b ∧ S.St w2 dk ∧ S.Dat w2 W.heap.size ∧ KeptBut S.blk W w2 ∧ Sort.scanSorted S.lt dk b i' = Sort.scanSorted S.lt dk b i) (fun v _ => b - (intOf v).toNat)
      case atStart => exact ⟨i, rfl, Nat.le_refl _, hib, HSr.out, HDr.out, HKr.out, rfl⟩
      case round =>
        obtain ⟨i', rfl, hii, hib', hS, hDt, hK, hI⟩ := hrel
        clear HSr HDr HKr
        have HS1 := hid hS
        have HD1 := hid hDt
        have HK1 := hid hK
        have HI1 := hid hI
        have y0 := hDt.c0
        have y9 := hDt.c1
        have z0 := hDt.lt
        clear hS hDt hK hI
        by_cases e1 : i' < b
        · have d1 : decide ((i' : Int) < (b : Int)) = true := by simp; omega
          obtain ⟨lv, hlv⟩ : ∃ lv, S.lt dk[i']! dk[i' - 1]! = lv := ⟨_, rfl⟩
          have HL := hid (O.lessI _ _ HS1.out ((i' : Nat) : Int) ((i' : Int) - 1) i' (i' - 1) lv rfl (by omega) (by omega) (by omega) hlv)
          have HV := hid hlv
          clear hlv
          cases lv with
          | false =>
            go_wp2_with (go_at_fn S.g; refine HL.out.mono ?_; rintro e w1 ⟨rfl, hS1, hK1⟩; have HS6 := hid hS1; have HK6 := hid hK1; have y1 := (HD1.out.kept hK1).c1; have y2 := (HD1.out.kept hK1).lt; clear hS1 hK1)
            go_roundw
            case rel => exact ⟨i' + 1, by go_num, by omega, by omega, HS6.out, HD1.out.kept HK6.out, HK1.out.trans HK6.out, by rw [← HI1.out, scanSorted_go S.lt dk b i' e1 HV.out]⟩
            case measure => simp [intOf]; omega
          | true =>
            have HI2 : Hid (i' = Sort.scanSorted S.lt dk b i) := hid (by rw [← HI1.out, scanSorted_stop S.lt dk b i' (Or.inr HV.out)])
            have b1 : ((i' : Int) == (b : Int)) = false := by simp; omega
            by_cases e50 : b - a < 50
            · have d50 : decide ((b : Int) - (a : Int) < 50) = true := by simp; omega
              go_wp2_with (go_at_fn S.g; refine HL.out.mono ?_; rintro e w1 ⟨rfl, hS1, hK1⟩; have HS6 := hid hS1; have HK6 := hid hK1; have y1 := (HD1.out.kept hK1).c1; have y2 := (HD1.out.kept hK1).lt; clear hS1 hK1)
              go_ret
              rw [← HIr.out, show 5 - st = 5 - (st + 1) + 1 by omega, pi_false HI2.out (by omega) e50]
              exact ⟨rfl, HS6.out, HK1.out.trans HK6.out⟩
            · have d50 : decide ((b : Int) - (a : Int) < 50) = false := by simp; omega
              by_cases e8 : 2 ≤ b - i'
              · have d8 : decide ((2 : Int) ≤ (b : Int) - (i' : Int)) = true := by simp; omega
                have f8 : (2 : Int) ≤ (b : Int) - (i' : Int) := by omega
                go_wp2_with (go_at_fn S.g; refine HL.out.mono ?_; rintro e w1 ⟨rfl, hS1, hK1⟩; have HS6 := hid hS1; have HK6 := hid hK1; have y1 := (HD1.out.kept hK1).c1; have y2 := (HD1.out.kept hK1).lt; clear hS1 hK1)
                obtain ⟨w4, hr, hS4, hK4⟩ := HS6.out.swpI HO.out ((i' : Nat) : Int) ((i' : Int) - 1) i' (i' - 1) rfl (by omega) (by omega) (by omega)
                rw [hr, Oper.upon_value]
                have HS7 := hid hS4
                have HD7 := hid (HD1.out.kept (HK6.out.trans hK4))
                have HK7 := hid (HK1.out.trans (HK6.out.trans hK4))
                clear hS4 hK4 hr HS6 HK6 y1 y2 HL HV HI1 HS1 HD1 HK1 y0 y9 z0
                obtain ⟨dk1, hdk1⟩ : ∃ x, x = Sort.swp dk i' (i' - 1) := ⟨_, rfl⟩
                rw [← hdk1] at HS7
                have HE1 := hid hdk1
                clear hdk1
                by_cases e2 : 2 ≤ i' - a
                · have d2 : decide ((2 : Int) ≤ (i' : Int) - (a : Int)) = true := by simp; omega
                  go_wp2
                  try rw [d2]
                  go_loopw [9] (fun v w2 => ∃ (j : Nat) (dj : Array α), v = .int .i64 (j) ∧ j ≤ i' - 1 ∧ S.St w2 dj ∧ S.Dat w2 W.heap.size ∧ KeptBut S.blk W w2 ∧ Sort.shiftDown S.lt j dj = Sort.shiftDown S.lt (i' - 1) dk1) (fun v _ => (intOf v).toNat)
                  case atStart => exact ⟨i' - 1, dk1, by congr 1; omega, Nat.le_refl _, HS7.out, HD7.out, HK7.out, rfl⟩
                  case round =>
                    obtain ⟨j, dj, rfl, hj1, hS, hDt, hK, hI⟩ := hrel
                    clear HS7 HD7 HK7
                    have HS3 := hid hS
                    have HD3 := hid hDt
                    have HK3 := hid hK
                    have HI3 := hid hI
                    have y0 := hDt.c0
                    have y9 := hDt.c1
                    have z0 := hDt.lt
                    clear hS hDt hK hI
                    by_cases e3 : 1 ≤ j
                    · have d3 : decide ((1 : Int) ≤ (j : Int)) = true := by simp; omega
                      obtain ⟨lv, hlv⟩ : ∃ lv, S.lt dj[j]! dj[j - 1]! = lv := ⟨_, rfl⟩
                      have HL := hid (O.lessI _ _ HS3.out ((j : Nat) : Int) ((j : Int) - 1) j (j - 1) lv rfl (by omega) (by omega) (by omega) hlv)
                      have HV := hid hlv
                      clear hlv
                      cases lv with
                      | true =>
                        go_wp2_with (go_at_fn S.g; refine HL.out.mono ?_; rintro e w1 ⟨rfl, hS1, hK1⟩; have HS6 := hid hS1; have HK6 := hid hK1; have y1 := (HD3.out.kept hK1).c1; have y2 := (HD3.out.kept hK1).lt; clear hS1 hK1)
                        obtain ⟨w4, hr, hS4, hK4⟩ := HS6.out.swpI HO.out ((j : Nat) : Int) ((j : Int) - 1) j (j - 1) rfl (by omega) (by omega) (by omega)
                        rw [hr, Oper.upon_value]
                        have HSa := hid hS4
                        have HKa := hid (HK6.out.trans hK4)
                        clear hS4 hK4 hr
                        go_wp2
                        go_roundw
                        case rel => exact ⟨j - 1, _, by congr 1; omega, by omega, HSa.out, HD3.out.kept HKa.out, HK3.out.trans HKa.out, by rw [← HI3.out, shiftDown_go S.lt j dj e3 HV.out]⟩
                        case measure => simp [intOf]; omega
                      | false =>
                        have hE : dj = Sort.fixDown S.lt a i' (Sort.swp dk i' (i' - 1)) := by unfold Sort.fixDown; rw [if_pos (show i' - a ≥ 2 from e2), ← HE1.out, ← HI3.out, shiftDown_stop S.lt j dj (Or.inr HV.out)]
                        go_wp2_with (go_at_fn S.g; refine HL.out.mono ?_; rintro e w1 ⟨rfl, hS1, hK1⟩; have HS6 := hid hS1; have HK6 := hid hK1; have y1 := (HD3.out.kept hK1).c1; have y2 := (HD3.out.kept hK1).lt; clear hS1 hK1)
                        obtain ⟨dk2, hdk2⟩ : ∃ x, x = dj := ⟨_, rfl⟩
                        rw [← hdk2] at HS6 hE
                        have HE := hid hE
                        have HS8 := hid HS6.out
                        have HD8 := hid (HD3.out.kept HK6.out)
                        have HK8 := hid (HK3.out.trans HK6.out)
                        clear HS3 HD3 HK3 HI3 HS6 HK6 HL HV y0 y9 z0 y1 y2 hE hdk2
                        try rw [d8]
                        go_loopw [10] (fun v w2 => ∃ (j : Nat) (dj : Array α), v = .int .i64 (j) ∧ i' + 1 ≤ j ∧ j ≤ b ∧ S.St w2 dj ∧ S.Dat w2 W.heap.size ∧ KeptBut S.blk W w2 ∧ Sort.shiftUp S.lt b j dj = Sort.shiftUp S.lt b (i' + 1) dk2) (fun v _ => b - (intOf v).toNat)
                        case atStart => exact ⟨i' + 1, dk2, by go_num, Nat.le_refl _, by omega, HS8.out, HD8.out, HK8.out, rfl⟩
                        case round =>
                          obtain ⟨j, dj, rfl, hj1, hj2, hS, hDt, hK, hI⟩ := hrel
                          clear HS8 HD8 HK8
                          have HS9 := hid hS
                          have HD9 := hid hDt
                          have HK9 := hid hK
                          have HI9 := hid hI
                          have y0 := hDt.c0
                          have y9 := hDt.c1
                          have z0 := hDt.lt
                          clear hS hDt hK hI
                          by_cases e9 : j < b
                          · have d9 : decide ((j : Int) < (b : Int)) = true := by simp; omega
                            obtain ⟨lv, hlv⟩ : ∃ lv, S.lt dj[j]! dj[j - 1]! = lv := ⟨_, rfl⟩
                            have HL := hid (O.lessI _ _ HS9.out ((j : Nat) : Int) ((j : Int) - 1) j (j - 1) lv rfl (by omega) (by omega) (by omega) hlv)
                            have HV := hid hlv
                            clear hlv
                            cases lv with
                            | true =>
                              go_wp2_with (go_at_fn S.g; refine HL.out.mono ?_; rintro e w1 ⟨rfl, hS1, hK1⟩; have HS6 := hid hS1; have HK6 := hid hK1; have y1 := (HD9.out.kept hK1).c1; have y2 := (HD9.out.kept hK1).lt; clear hS1 hK1)
                              obtain ⟨w4, hr, hS4, hK4⟩ := HS6.out.swpI HO.out ((j : Nat) : Int) ((j : Int) - 1) j (j - 1) rfl (by omega) (by omega) (by omega)
                              rw [hr, Oper.upon_value]
                              have HSa := hid hS4
                              have HKa := hid (HK6.out.trans hK4)
                              clear hS4 hK4 hr
                              go_wp2
                              go_roundw
                              case rel => exact ⟨j + 1, _, by go_num, by omega, by omega, HSa.out, HD9.out.kept HKa.out, HK9.out.trans HKa.out, by rw [← HI9.out, shiftUp_go S.lt b j dj e9 HV.out]⟩
                              case measure => simp [intOf]; omega
                            | false =>
                              go_wp2_with (go_at_fn S.g; refine HL.out.mono ?_; rintro e w1 ⟨rfl, hS1, hK1⟩; have HS6 := hid hS1; have HK6 := hid hK1; have y1 := (HD9.out.kept hK1).c1; have y2 := (HD9.out.kept hK1).lt; clear hS1 hK1)
                              go_roundw
                              case rel => exact ⟨st + 1, i', dj, rfl, by go_num, by omega, by omega, by omega, HS6.out, HD9.out.kept HK6.out, HK9.out.trans HK6.out, by rw [← HIr.out, show 5 - st = 5 - (st + 1) + 1 by omega, pi_go HI2.out (by omega) (by omega), ← HE.out, (by unfold Sort.fixUp; rw [if_pos (show b - i' ≥ 2 from e8), ← HI9.out, shiftUp_stop S.lt b j dj (Or.inr HV.out)] : Sort.fixUp S.lt b i' dk2 = dj)]⟩
                              case measure => simp [intOf]; omega
                          · have d9 : decide ((j : Int) < (b : Int)) = false := by simp; omega
                            go_wp2
                            go_roundw
                            case rel => exact ⟨st + 1, i', dj, rfl, by go_num, by omega, by omega, by omega, HS9.out, HD9.out, HK9.out, by rw [← HIr.out, show 5 - st = 5 - (st + 1) + 1 by omega, pi_go HI2.out (by omega) (by omega), ← HE.out, (by unfold Sort.fixUp; rw [if_pos (show b - i' ≥ 2 from e8), ← HI9.out, shiftUp_stop S.lt b j dj (Or.inl e9)] : Sort.fixUp S.lt b i' dk2 = dj)]⟩
                            case measure => simp [intOf]; omega
                    · have d3 : decide ((1 : Int) ≤ (j : Int)) = false := by simp; omega
                      have hE : dj = Sort.fixDown S.lt a i' (Sort.swp dk i' (i' - 1)) := by unfold Sort.fixDown; rw [if_pos (show i' - a ≥ 2 from e2), ← HE1.out, ← HI3.out, shiftDown_stop S.lt j dj (Or.inl (by omega))]
                      go_wp2
                      obtain ⟨dk2, hdk2⟩ : ∃ x, x = dj := ⟨_, rfl⟩
                      rw [← hdk2] at HS3 hE
                      have HE := hid hE
                      have HS8 := hid HS3.out
                      have HD8 := hid HD3.out
                      have HK8 := hid HK3.out
                      clear HS3 HD3 HK3 HI3 y0 y9 z0 hE hdk2
                      try rw [d8]
                      go_loopw [10] (fun v w2 => ∃ (j : Nat) (dj : Array α), v = .int .i64 (j) ∧ i' + 1 ≤ j ∧ j ≤ b ∧ S.St w2 dj ∧ S.Dat w2 W.heap.size ∧ KeptBut S.blk W w2 ∧ Sort.shiftUp S.lt b j dj = Sort.shiftUp S.lt b (i' + 1) dk2) (fun v _ => b - (intOf v).toNat)
                      case atStart => exact ⟨i' + 1, dk2, by go_num, Nat.le_refl _, by omega, HS8.out, HD8.out, HK8.out, rfl⟩
                      case round =>
                        obtain ⟨j, dj, rfl, hj1, hj2, hS, hDt, hK, hI⟩ := hrel
                        clear HS8 HD8 HK8
                        have HS9 := hid hS
                        have HD9 := hid hDt
                        have HK9 := hid hK
                        have HI9 := hid hI
                        have y0 := hDt.c0
                        have y9 := hDt.c1
                        have z0 := hDt.lt
                        clear hS hDt hK hI
                        by_cases e9 : j < b
                        · have d9 : decide ((j : Int) < (b : Int)) = true := by simp; omega
                          obtain ⟨lv, hlv⟩ : ∃ lv, S.lt dj[j]! dj[j - 1]! = lv := ⟨_, rfl⟩
                          have HL := hid (O.lessI _ _ HS9.out ((j : Nat) : Int) ((j : Int) - 1) j (j - 1) lv rfl (by omega) (by omega) (by omega) hlv)
                          have HV := hid hlv
                          clear hlv
                          cases lv with
                          | true =>
                            go_wp2_with (go_at_fn S.g; refine HL.out.mono ?_; rintro e w1 ⟨rfl, hS1, hK1⟩; have HS6 := hid hS1; have HK6 := hid hK1; have y1 := (HD9.out.kept hK1).c1; have y2 := (HD9.out.kept hK1).lt; clear hS1 hK1)
                            obtain ⟨w4, hr, hS4, hK4⟩ := HS6.out.swpI HO.out ((j : Nat) : Int) ((j : Int) - 1) j (j - 1) rfl (by omega) (by omega) (by omega)
                            rw [hr, Oper.upon_value]
                            have HSa := hid hS4
                            have HKa := hid (HK6.out.trans hK4)
                            clear hS4 hK4 hr
                            go_wp2
                            go_roundw
                            case rel => exact ⟨j + 1, _, by go_num, by omega, by omega, HSa.out, HD9.out.kept HKa.out, HK9.out.trans HKa.out, by rw [← HI9.out, shiftUp_go S.lt b j dj e9 HV.out]⟩
                            case measure => simp [intOf]; omega
                          | false =>
                            go_wp2_with (go_at_fn S.g; refine HL.out.mono ?_; rintro e w1 ⟨rfl, hS1, hK1⟩; have HS6 := hid hS1; have HK6 := hid hK1; have y1 := (HD9.out.kept hK1).c1; have y2 := (HD9.out.kept hK1).lt; clear hS1 hK1)
                            go_roundw
                            case rel => exact ⟨st + 1, i', dj, rfl, by go_num, by omega, by omega, by omega, HS6.out, HD9.out.kept HK6.out, HK9.out.trans HK6.out, by rw [← HIr.out, show 5 - st = 5 - (st + 1) + 1 by omega, pi_go HI2.out (by omega) (by omega), ← HE.out, (by unfold Sort.fixUp; rw [if_pos (show b - i' ≥ 2 from e8), ← HI9.out, shiftUp_stop S.lt b j dj (Or.inr HV.out)] : Sort.fixUp S.lt b i' dk2 = dj)]⟩
                            case measure => simp [intOf]; omega
                        · have d9 : decide ((j : Int) < (b : Int)) = false := by simp; omega
                          go_wp2
                          go_roundw
                          case rel => exact ⟨st + 1, i', dj, rfl, by go_num, by omega, by omega, by omega, HS9.out, HD9.out, HK9.out, by rw [← HIr.out, show 5 - st = 5 - (st + 1) + 1 by omega, pi_go HI2.out (by omega) (by omega), ← HE.out, (by unfold Sort.fixUp; rw [if_pos (show b - i' ≥ 2 from e8), ← HI9.out, shiftUp_stop S.lt b j dj (Or.inl e9)] : Sort.fixUp S.lt b i' dk2 = dj)]⟩
                          case measure => simp [intOf]; omega
                · have d2 : decide ((2 : Int) ≤ (i' : Int) - (a : Int)) = false := by simp; omega
                  have f2 : (i' : Int) - (a : Int) < 2 := by omega
                  have hE : dk1 = Sort.fixDown S.lt a i' (Sort.swp dk i' (i' - 1)) := by unfold Sort.fixDown; rw [if_neg (show ¬ i' - a ≥ 2 from e2), ← HE1.out]
                  go_wp2
                  obtain ⟨dk2, hdk2⟩ : ∃ x, x = dk1 := ⟨_, rfl⟩
                  rw [← hdk2] at HS7 hE
                  have HE := hid hE
                  have HS8 := hid HS7.out
                  have HD8 := hid HD7.out
                  have HK8 := hid HK7.out
                  clear HS7 HD7 HK7 hE hdk2
                  try rw [d8]
                  go_loopw [10] (fun v w2 => ∃ (j : Nat) (dj : Array α), v = .int .i64 (j) ∧ i' + 1 ≤ j ∧ j ≤ b ∧ S.St w2 dj ∧ S.Dat w2 W.heap.size ∧ KeptBut S.blk W w2 ∧ Sort.shiftUp S.lt b j dj = Sort.shiftUp S.lt b (i' + 1) dk2) (fun v _ => b - (intOf v).toNat)
                  case atStart => exact ⟨i' + 1, dk2, by go_num, Nat.le_refl _, by omega, HS8.out, HD8.out, HK8.out, rfl⟩
                  case round =>
                    obtain ⟨j, dj, rfl, hj1, hj2, hS, hDt, hK, hI⟩ := hrel
                    clear HS8 HD8 HK8
                    have HS9 := hid hS
                    have HD9 := hid hDt
                    have HK9 := hid hK
                    have HI9 := hid hI
                    have y0 := hDt.c0
                    have y9 := hDt.c1
                    have z0 := hDt.lt
                    clear hS hDt hK hI
                    by_cases e9 : j < b
                    · have d9 : decide ((j : Int) < (b : Int)) = true := by simp; omega
                      obtain ⟨lv, hlv⟩ : ∃ lv, S.lt dj[j]! dj[j - 1]! = lv := ⟨_, rfl⟩
                      have HL := hid (O.lessI _ _ HS9.out ((j : Nat) : Int) ((j : Int) - 1) j (j - 1) lv rfl (by omega) (by omega) (by omega) hlv)
                      have HV := hid hlv
                      clear hlv
                      cases lv with
                      | true =>
                        go_wp2_with (go_at_fn S.g; refine HL.out.mono ?_; rintro e w1 ⟨rfl, hS1, hK1⟩; have HS6 := hid hS1; have HK6 := hid hK1; have y1 := (HD9.out.kept hK1).c1; have y2 := (HD9.out.kept hK1).lt; clear hS1 hK1)
                        obtain ⟨w4, hr, hS4, hK4⟩ := HS6.out.swpI HO.out ((j : Nat) : Int) ((j : Int) - 1) j (j - 1) rfl (by omega) (by omega) (by omega)
                        rw [hr, Oper.upon_value]
                        have HSa := hid hS4
                        have HKa := hid (HK6.out.trans hK4)
                        clear hS4 hK4 hr
                        go_wp2
                        go_roundw
                        case rel => exact ⟨j + 1, _, by go_num, by omega, by omega, HSa.out, HD9.out.kept HKa.out, HK9.out.trans HKa.out, by rw [← HI9.out, shiftUp_go S.lt b j dj e9 HV.out]⟩
                        case measure => simp [intOf]; omega
                      | false =>
                        go_wp2_with (go_at_fn S.g; refine HL.out.mono ?_; rintro e w1 ⟨rfl, hS1, hK1⟩; have HS6 := hid hS1; have HK6 := hid hK1; have y1 := (HD9.out.kept hK1).c1; have y2 := (HD9.out.kept hK1).lt; clear hS1 hK1)
                        go_roundw
                        case rel => exact ⟨st + 1, i', dj, rfl, by go_num, by omega, by omega, by omega, HS6.out, HD9.out.kept HK6.out, HK9.out.trans HK6.out, by rw [← HIr.out, show 5 - st = 5 - (st + 1) + 1 by omega, pi_go HI2.out (by omega) (by omega), ← HE.out, (by unfold Sort.fixUp; rw [if_pos (show b - i' ≥ 2 from e8), ← HI9.out, shiftUp_stop S.lt b j dj (Or.inr HV.out)] : Sort.fixUp S.lt b i' dk2 = dj)]⟩
                        case measure => simp [intOf]; omega
                    · have d9 : decide ((j : Int) < (b : Int)) = false := by simp; omega
                      go_wp2
                      go_roundw
                      case rel => exact ⟨st + 1, i', dj, rfl, by go_num, by omega, by omega, by omega, HS9.out, HD9.out, HK9.out, by rw [← HIr.out, show 5 - st = 5 - (st + 1) + 1 by omega, pi_go HI2.out (by omega) (by omega), ← HE.out, (by unfold Sort.fixUp; rw [if_pos (show b - i' ≥ 2 from e8), ← HI9.out, shiftUp_stop S.lt b j dj (Or.inl e9)] : Sort.fixUp S.lt b i' dk2 = dj)]⟩
                      case measure => simp [intOf]; omega
              · have d8 : decide ((2 : Int) ≤ (b : Int) - (i' : Int)) = false := by simp; omega
                have f8 : (b : Int) - (i' : Int) < 2 := by omega
                go_wp2_with (go_at_fn S.g; refine HL.out.mono ?_; rintro e w1 ⟨rfl, hS1, hK1⟩; have HS6 := hid hS1; have HK6 := hid hK1; have y1 := (HD1.out.kept hK1).c1; have y2 := (HD1.out.kept hK1).lt; clear hS1 hK1)
                obtain ⟨w4, hr, hS4, hK4⟩ := HS6.out.swpI HO.out ((i' : Nat) : Int) ((i' : Int) - 1) i' (i' - 1) rfl (by omega) (by omega) (by omega)
                rw [hr, Oper.upon_value]
                have HS7 := hid hS4
                have HD7 := hid (HD1.out.kept (HK6.out.trans hK4))
                have HK7 := hid (HK1.out.trans (HK6.out.trans hK4))
                clear hS4 hK4 hr HS6 HK6 y1 y2 HL HV HI1 HS1 HD1 HK1 y0 y9 z0
                obtain ⟨dk1, hdk1⟩ : ∃ x, x = Sort.swp dk i' (i' - 1) := ⟨_, rfl⟩
                rw [← hdk1] at HS7
                have HE1 := hid hdk1
                clear hdk1
                by_cases e2 : 2 ≤ i' - a
                · have d2 : decide ((2 : Int) ≤ (i' : Int) - (a : Int)) = true := by simp; omega
                  go_wp2
                  try rw [d2]
                  go_loopw [9] (fun v w2 => ∃ (j : Nat) (dj : Array α), v = .int .i64 (j) ∧ j ≤ i' - 1 ∧ S.St w2 dj ∧ S.Dat w2 W.heap.size ∧ KeptBut S.blk W w2 ∧ Sort.shiftDown S.lt j dj = Sort.shiftDown S.lt (i' - 1) dk1) (fun v _ => (intOf v).toNat)
                  case atStart => exact ⟨i' - 1, dk1, by congr 1; omega, Nat.le_refl _, HS7.out, HD7.out, HK7.out, rfl⟩
                  case round =>
                    obtain ⟨j, dj, rfl, hj1, hS, hDt, hK, hI⟩ := hrel
                    clear HS7 HD7 HK7
                    have HS3 := hid hS
                    have HD3 := hid hDt
                    have HK3 := hid hK
                    have HI3 := hid hI
                    have y0 := hDt.c0
                    have y9 := hDt.c1
                    have z0 := hDt.lt
                    clear hS hDt hK hI
                    by_cases e3 : 1 ≤ j
                    · have d3 : decide ((1 : Int) ≤ (j : Int)) = true := by simp; omega
                      obtain ⟨lv, hlv⟩ : ∃ lv, S.lt dj[j]! dj[j - 1]! = lv := ⟨_, rfl⟩
                      have HL := hid (O.lessI _ _ HS3.out ((j : Nat) : Int) ((j : Int) - 1) j (j - 1) lv rfl (by omega) (by omega) (by omega) hlv)
                      have HV := hid hlv
                      clear hlv
                      cases lv with
                      | true =>
                        go_wp2_with (go_at_fn S.g; refine HL.out.mono ?_; rintro e w1 ⟨rfl, hS1, hK1⟩; have HS6 := hid hS1; have HK6 := hid hK1; have y1 := (HD3.out.kept hK1).c1; have y2 := (HD3.out.kept hK1).lt; clear hS1 hK1)
                        obtain ⟨w4, hr, hS4, hK4⟩ := HS6.out.swpI HO.out ((j : Nat) : Int) ((j : Int) - 1) j (j - 1) rfl (by omega) (by omega) (by omega)
                        rw [hr, Oper.upon_value]
                        have HSa := hid hS4
                        have HKa := hid (HK6.out.trans hK4)
                        clear hS4 hK4 hr
                        go_wp2
                        go_roundw
                        case rel => exact ⟨j - 1, _, by congr 1; omega, by omega, HSa.out, HD3.out.kept HKa.out, HK3.out.trans HKa.out, by rw [← HI3.out, shiftDown_go S.lt j dj e3 HV.out]⟩
                        case measure => simp [intOf]; omega
                      | false =>
                        have hE : dj = Sort.fixDown S.lt a i' (Sort.swp dk i' (i' - 1)) := by unfold Sort.fixDown; rw [if_pos (show i' - a ≥ 2 from e2), ← HE1.out, ← HI3.out, shiftDown_stop S.lt j dj (Or.inr HV.out)]
                        go_wp2_with (go_at_fn S.g; refine HL.out.mono ?_; rintro e w1 ⟨rfl, hS1, hK1⟩; have HS6 := hid hS1; have HK6 := hid hK1; have y1 := (HD3.out.kept hK1).c1; have y2 := (HD3.out.kept hK1).lt; clear hS1 hK1)
                        obtain ⟨dk2, hdk2⟩ : ∃ x, x = dj := ⟨_, rfl⟩
                        rw [← hdk2] at HS6 hE
                        have HE := hid hE
                        have HS8 := hid HS6.out
                        have HD8 := hid (HD3.out.kept HK6.out)
                        have HK8 := hid (HK3.out.trans HK6.out)
                        clear HS3 HD3 HK3 HI3 HS6 HK6 HL HV y0 y9 z0 y1 y2 hE hdk2
                        go_roundw
                        case rel => exact ⟨st + 1, i', dk2, rfl, by go_num, by omega, by omega, by omega, HS8.out, HD8.out, HK8.out, by rw [← HIr.out, show 5 - st = 5 - (st + 1) + 1 by omega, pi_go HI2.out (by omega) (by omega), ← HE.out, (by unfold Sort.fixUp; rw [if_neg (show ¬ b - i' ≥ 2 from e8)] : Sort.fixUp S.lt b i' dk2 = dk2)]⟩
                        case measure => simp [intOf]; omega
                    · have d3 : decide ((1 : Int) ≤ (j : Int)) = false := by simp; omega
                      have hE : dj = Sort.fixDown S.lt a i' (Sort.swp dk i' (i' - 1)) := by unfold Sort.fixDown; rw [if_pos (show i' - a ≥ 2 from e2), ← HE1.out, ← HI3.out, shiftDown_stop S.lt j dj (Or.inl (by omega))]
                      go_wp2
                      obtain ⟨dk2, hdk2⟩ : ∃ x, x = dj := ⟨_, rfl⟩
                      rw [← hdk2] at HS3 hE
                      have HE := hid hE
                      have HS8 := hid HS3.out
                      have HD8 := hid HD3.out
                      have HK8 := hid HK3.out
                      clear HS3 HD3 HK3 HI3 y0 y9 z0 hE hdk2
                      go_roundw
                      case rel => exact ⟨st + 1, i', dk2, rfl, by go_num, by omega, by omega, by omega, HS8.out, HD8.out, HK8.out, by rw [← HIr.out, show 5 - st = 5 - (st + 1) + 1 by omega, pi_go HI2.out (by omega) (by omega), ← HE.out, (by unfold Sort.fixUp; rw [if_neg (show ¬ b - i' ≥ 2 from e8)] : Sort.fixUp S.lt b i' dk2 = dk2)]⟩
                      case measure => simp [intOf]; omega
                · have d2 : decide ((2 : Int) ≤ (i' : Int) - (a : Int)) = false := by simp; omega
                  have f2 : (i' : Int) - (a : Int) < 2 := by omega
                  have hE : dk1 = Sort.fixDown S.lt a i' (Sort.swp dk i' (i' - 1)) := by unfold Sort.fixDown; rw [if_neg (show ¬ i' - a ≥ 2 from e2), ← HE1.out]
                  go_wp2
                  obtain ⟨dk2, hdk2⟩ : ∃ x, x = dk1 := ⟨_, rfl⟩
                  rw [← hdk2] at HS7 hE
                  have HE := hid hE
                  have HS8 := hid HS7.out
                  have HD8 := hid HD7.out
                  have HK8 := hid HK7.out
                  clear HS7 HD7 HK7 hE hdk2
                  go_roundw
                  case rel => exact ⟨st + 1, i', dk2, rfl, by go_num, by omega, by omega, by omega, HS8.out, HD8.out, HK8.out, by rw [← HIr.out, show 5 - st = 5 - (st + 1) + 1 by omega, pi_go HI2.out (by omega) (by omega), ← HE.out, (by unfold Sort.fixUp; rw [if_neg (show ¬ b - i' ≥ 2 from e8)] : Sort.fixUp S.lt b i' dk2 = dk2)]⟩
                  case measure => simp [intOf]; omega
        · have d1 : decide ((i' : Int) < (b : Int)) = false := by simp; omega
          have b1 : ((i' : Int) == (b : Int)) = true := by simp; omega
          have HI2 : Hid (i' = Sort.scanSorted S.lt dk b i) := hid (by rw [← HI1.out, scanSorted_stop S.lt dk b i' (Or.inl e1)])
          go_wp2
          go_ret
          rw [← HIr.out, show 5 - st = 5 - (st + 1) + 1 by omega, pi_true HI2.out (by omega)]
          exact ⟨rfl, HS1.out, HK1.out⟩
    · have de : decide ((st : Int) < 5) = false := by simp; omega
      go_wp2
      go_ret
      rw [← HIr.out, show 5 - st = 0 by omega]
      exact ⟨rfl, HSr.out, HKr.out⟩
end Go.Proofs.Qxb6500717aGreat
