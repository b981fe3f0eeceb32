/-
  insertionSort_func: the walk.
-/
import Derived.Test.Qxb6500717aGreatSo0
namespace Go.Proofs.Qxb6500717aGreat
open Go.RowKit
set_option linter.unusedSimpArgs false
set_option linter.unusedVariables false
set_option linter.unusedSectionVars false
variable {α : Type} [Inhabited α] {S : Srt α}
set_option maxRecDepth 20000 in
set_option maxHeartbeats 4000000 in
theorem ins_any (O : S.Ok) (a b : Nat) (d : Array α) (W : World) (h : S.St W d) (hab : a ≤ b) (hb : b ≤ S.n) :
    Calls Tryz.prog 99 #[S.dv, .int .i64 (a), .int .i64 (b)] W (fun e w' => e = .returned (.tuple #[]) ∧ S.St w' (Sort.insertionSort S.lt d a b) ∧ KeptBut S.blk W w') := by
  have eg := O.eg
  have HO := hid O
  have hnb := O.nb
  have HD := hid (Srt.Dat.new h O 120)
  have HS := hid (h.al O (.cells #[.func (.func S.g) #[] S.lb, .func (.func S.sf) #[] S.sb] 120))
  unfold Srt.dv
  clear h
  go_enter Tryz.func99, Tryz.ntmps99
  go_wp2
  go_loopw [6] (fun v wr => ∃ (i : Nat) (dk : Array α), v = .int .i64 (i) ∧ a < i ∧ i ≤ b + 1 ∧ S.St wr dk ∧ S.Dat wr W.heap.size ∧ KeptBut S.blk W wr ∧ Sort.insOuter S.lt a b i dk = Sort.insOuter S.lt a b (a + 1) d) (fun v _ => b + 1 - (intOf v).toNat)
  case atStart => exact ⟨a + 1, d, by go_num, by omega, by omega, HS.out, HD.out, (KeptBut.refl _ _).al _, rfl⟩
  case round =>
    obtain ⟨i, dk, rfl, hai, hib, hS, hDt, hK, hO⟩ := hrel
    have HSr := hid hS
    have HDr := hid hDt
    have HKr := hid hK
    have HIr := hid hO
    clear hS hDt hK hO HS HD
    by_cases e : i < b
    · have di : decide ((i : Int) < (b : Int)) = true := by simp; omega
      go_wp2
      go_loopw [7] (fun v w2 => ∃ (j : Nat) (dj : Array α), v = .int .i64 (j) ∧ a ≤ j ∧ j ≤ i ∧ S.St w2 dj ∧ S.Dat w2 W.heap.size ∧ KeptBut S.blk W w2 ∧ Sort.insInner S.lt a j dj = Sort.insInner S.lt a i dk) (fun v _ => (intOf v).toNat)
      case atStart => exact ⟨i, dk, rfl, by omega, Nat.le_refl _, HSr.out, HDr.out, HKr.out, rfl⟩
      case round =>
        obtain ⟨j, dj, rfl, haj, hji, hS, hDt, hK, hI⟩ := hrel
        have HS2 := hid hS
        have HD2 := hid hDt
        have HK2 := hid hK
        have HI2 := hid hI
        have c0 := hDt.c0
        have l0 := hDt.lt
        clear hS hDt hK hI
        by_cases e2 : a < j
        · have dj1 : decide ((a : Int) < (j : Int)) = true := by simp; omega
          have HL := hid (O.less _ _ HS2.out j (j - 1) (by omega) (by omega))
          rw [show (((j - 1 : Nat) : Int)) = (j : Int) - 1 by omega] at HL
          cases hlv : S.lt dj[j]! dj[j - 1]! with
          | true =>
            rw [hlv] at HL
            have HV := hid hlv
            clear hlv
            go_wp2_with (go_at_fn S.g; refine HL.out.mono ?_; rintro e w1 ⟨rfl, hS1, hK1⟩; have HS3 := hid hS1; have HK3 := hid hK1; have c1 := (HD2.out.kept hK1).c1; have l1 := (HD2.out.kept hK1).lt; clear hS1 hK1)
            obtain ⟨w4, hr, hS4, hK4⟩ := HS3.out.swp HO.out (i := j) (j := j - 1) (by omega) (by omega)
            rw [show (((j - 1 : Nat) : Int)) = (j : Int) - 1 by omega] at hr
            rw [hr, Oper.upon_value]
            have HS4 := hid hS4
            have HK4 := hid ((HK3.out).trans hK4)
            clear hS4 hK4 hr
            go_wp2
            go_roundw
            case rel => exact ⟨j - 1, _, by congr 1; omega, by omega, by omega, HS4.out, HD2.out.kept HK4.out, HK2.out.trans HK4.out, by rw [← HI2.out, insInner_go S.lt a j dj e2 HV.out]⟩
            case measure => simp [intOf]; omega
          | false =>
            rw [hlv] at HL
            have HV := hid hlv
            clear hlv
            go_wp2_with (go_at_fn S.g; refine HL.out.mono ?_; rintro e w1 ⟨rfl, hS1, hK1⟩; have HS3 := hid hS1; have HK3 := hid hK1; clear hS1 hK1)
            go_roundw
            case rel => exact ⟨i + 1, dj, by go_num, by omega, by omega, HS3.out, HD2.out.kept HK3.out, HK2.out.trans HK3.out, by rw [← HIr.out, insOuter_go S.lt a b i dk e, ← HI2.out, insInner_stop S.lt a j dj (Or.inr HV.out)]⟩
            case measure => simp [intOf]; omega
        · have dj1 : decide ((a : Int) < (j : Int)) = false := by simp; omega
          go_wp2
          go_roundw
          case rel => exact ⟨i + 1, dj, by go_num, by omega, by omega, HS2.out, HD2.out, HK2.out, by rw [← HIr.out, insOuter_go S.lt a b i dk e, ← HI2.out, insInner_stop S.lt a j dj (Or.inl (by omega))]⟩
          case measure => simp [intOf]; omega
    · have di : decide ((i : Int) < (b : Int)) = false := by simp; omega
      go_wp2
      refine bodyPost_end (v := .tuple #[]) (by simp [results, Tryz.results99]) rfl ?_
      exact ⟨rfl, by unfold Sort.insertionSort; rw [← HIr.out, insOuter_stop S.lt a b i dk e]; exact HSr.out, HKr.out⟩
end Go.Proofs.Qxb6500717aGreat
