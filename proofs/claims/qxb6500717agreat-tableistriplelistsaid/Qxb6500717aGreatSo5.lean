/-
  partitionEqual_func: the walk.
-/
import Derived.Test.Qxb6500717aGreatSo0
namespace Go.Proofs.Qxb6500717aGreat
open Go.RowKit
set_option linter.unusedSimpArgs false
set_option linter.unusedVariables false
set_option linter.unusedSectionVars false
variable {α : Type} [Inhabited α] {S : Srt α}
section
variable {lt : α → α → Bool} {a i j i2 j2 : Nat} {d : Array α}
theorem pe_go (h1 : i2 = Sort.scanUp (fun x => !lt d[a]! x) d j i) (h2 : j2 = Sort.scanDown (fun x => lt d[a]! x) d i2 j) (h : ¬ i2 > j2) : Sort.partEqLoop lt a i j d = Sort.partEqLoop lt a (i2 + 1) (j2 - 1) (Sort.swp d i2 j2) := by
  subst h1 h2
  rw [Sort.partEqLoop_eq, if_neg h]
theorem pe_end (h1 : i2 = Sort.scanUp (fun x => !lt d[a]! x) d j i) (h2 : j2 = Sort.scanDown (fun x => lt d[a]! x) d i2 j) (h : i2 > j2) : Sort.partEqLoop lt a i j d = (i2, d) := by
  subst h1 h2
  rw [Sort.partEqLoop_eq, if_pos h]
end
set_option maxRecDepth 20000 in
set_option maxHeartbeats 4000000 in
theorem partEq_any (O : S.Ok) (a b pivot : Nat) (d : Array α) (W : World) (h : S.St W d) (hap : a ≤ pivot) (hpb : pivot < b) (hb : b ≤ S.n) :
    Calls Tryz.prog 105 #[S.dv, .int .i64 (a), .int .i64 (b), .int .i64 (pivot)] W fun e w' => e = .returned (.int .i64 ((Sort.partitionEqual S.lt d a b pivot).1)) ∧ S.St w' (Sort.partitionEqual S.lt d a b pivot).2 ∧ KeptBut S.blk W w' := by
  have eg := O.eg
  have HO := hid O
  have hnb := O.nb
  have HD := hid (Srt.Dat.new h O 120)
  have HS := hid (h.al O (.cells #[.func (.func S.g) #[] S.lb, .func (.func S.sf) #[] S.sb] 120))
  obtain ⟨w4, hr, hS4, hK4⟩ := HS.out.swpI O ((a : Nat) : Int) ((pivot : Nat) : Int) a pivot rfl rfl (by omega) (by omega)
  have HS4 := hid hS4
  have HK4 := hid (((KeptBut.refl S.blk W).al _).trans hK4)
  have HD4 := hid (HD.out.kept hK4)
  have c1 := HD.out.c1
  unfold Srt.dv
  clear h hS4 hK4
  go_enter Tryz.func105, Tryz.ntmps105
  go_wp2
  clear hr c1
  go_loopw [9, 10] (fun v x wr => ∃ (i j : Nat) (dk : Array α), v = .int .i64 (i) ∧ x = .int .i64 (j) ∧ a < i ∧ i ≤ j + 2 ∧ j < b ∧ S.St wr dk ∧ S.Dat wr W.heap.size ∧ KeptBut S.blk W wr ∧ Sort.partEqLoop S.lt a i j dk = Sort.partEqLoop S.lt a (a + 1) (b - 1) (Sort.swp d a pivot)) (fun v x _ => (intOf x + 2 - intOf v).toNat)
  case atStart => exact ⟨a + 1, b - 1, _, by go_num, by congr 1; omega, by omega, by omega, by omega, HS4.out, HD4.out, HK4.out, rfl⟩
  case round =>
    obtain ⟨i, j, dk, rfl, rfl, hai, hij, hjb, hS, hDt, hK, hI⟩ := hrel
    have HSr := hid hS
    have HDr := hid hDt
    have HKr := hid hK
    have HIr := hid hI
    clear hS hDt hK hI HS HD HS4 HD4 HK4
    go_wp2
    go_loopw [9] (fun v w2 => ∃ i' : Nat, v = .int .i64 (i') ∧ i ≤ i' ∧ i' ≤ j + 2 ∧ S.St w2 dk ∧ S.Dat w2 W.heap.size ∧ KeptBut S.blk W w2 ∧ Sort.scanUp (fun x => !S.lt dk[a]! x) dk j i' = Sort.scanUp (fun x => !S.lt dk[a]! x) dk j i) (fun v _ => (j + 2) - (intOf v).toNat)
    case atStart => exact ⟨i, rfl, Nat.le_refl _, hij, HSr.out, HDr.out, HKr.out, rfl⟩
    case round =>
      obtain ⟨i', rfl, hii, hij', hS, hDt, hK, hI⟩ := hrel
      clear HSr HDr HKr
      have HSr := hid hS
      have HDr := hid hDt
      have HKr := hid hK
      have HI1 := hid hI
      have c0 := hDt.c0
      have l0 := hDt.lt
      clear hS hDt hK hI
      by_cases e : i' ≤ j
      · have de : decide ((i' : Int) ≤ (j : Int)) = true := by simp; omega
        obtain ⟨lv, hlv⟩ : ∃ lv, S.lt dk[a]! dk[i']! = lv := ⟨_, rfl⟩
        have HL := hid (O.lessI _ _ HSr.out ((a : Nat) : Int) ((i' : Nat) : Int) a i' lv rfl rfl (by omega) (by omega) hlv)
        have HV := hid hlv
        clear hlv
        cases lv with
        | false =>
          go_wp2_with (go_at_fn S.g; refine HL.out.mono ?_; rintro e w1 ⟨rfl, hS1, hK1⟩; have HS3 := hid hS1; have HK3 := hid hK1; clear hS1 hK1)
          go_roundw
          case rel => exact ⟨i' + 1, by go_num, by omega, by omega, HS3.out, HDr.out.kept HK3.out, HKr.out.trans HK3.out, by rw [← HI1.out, scanUp_go (fun x => !S.lt dk[a]! x) dk j i' e (by simp [HV.out])]⟩
          case measure => simp [intOf]; omega
        | true =>
          have HI2 : Hid (i' = Sort.scanUp (fun x => !S.lt dk[a]! x) dk j i) := hid (by rw [← HI1.out, scanUp_end (fun x => !S.lt dk[a]! x) dk j i' (Or.inr (by simp [HV.out]))])
          go_wp2_with (go_at_fn S.g; refine HL.out.mono ?_; rintro e w1 ⟨rfl, hS1, hK1⟩; have HS3 := hid hS1; have HK3 := hid hK1; clear hS1 hK1)
          clear HL HV HI1 c0 l0
          go_loopw [10] (fun v w2 => ∃ j' : Nat, v = .int .i64 (j') ∧ j' ≤ j ∧ i' ≤ j' + 2 ∧ S.St w2 dk ∧ S.Dat w2 W.heap.size ∧ KeptBut S.blk W w2 ∧ Sort.scanDown (fun x => S.lt dk[a]! x) dk i' j' = Sort.scanDown (fun x => S.lt dk[a]! x) dk i' j) (fun v _ => (intOf v).toNat)
          case atStart => exact ⟨j, rfl, Nat.le_refl _, by omega, HS3.out, HDr.out.kept HK3.out, HKr.out.trans HK3.out, rfl⟩
          case round =>
            obtain ⟨j', rfl, hjj, hij2, hS, hDt, hK, hI⟩ := hrel
            have HS5 := hid hS
            have HD5 := hid hDt
            have HK5 := hid hK
            have HI5 := hid hI
            have y0 := hDt.c0
            have z0 := hDt.lt
            clear hS hDt hK hI
            by_cases e5 : i' ≤ j'
            · have de5 : decide ((i' : Int) ≤ (j' : Int)) = true := by simp; omega
              obtain ⟨lv, hlv⟩ : ∃ lv, S.lt dk[a]! dk[j']! = lv := ⟨_, rfl⟩
              have HL := hid (O.lessI _ _ HS5.out ((a : Nat) : Int) ((j' : Nat) : Int) a j' lv rfl rfl (by omega) (by omega) hlv)
              have HV := hid hlv
              clear hlv
              cases lv with
              | true =>
                go_wp2_with (go_at_fn S.g; refine HL.out.mono ?_; rintro e w1 ⟨rfl, hS1, hK1⟩; have HS6 := hid hS1; have HK6 := hid hK1; clear hS1 hK1)
                go_roundw
                case rel => exact ⟨j' - 1, by congr 1; omega, by omega, by omega, HS6.out, HD5.out.kept HK6.out, HK5.out.trans HK6.out, by rw [← HI5.out, scanDown_go (fun x => S.lt dk[a]! x) dk i' j' e5 (by omega) HV.out]⟩
                case measure => simp [intOf]; omega
              | false =>
                have HJ2 : Hid (j' = Sort.scanDown (fun x => S.lt dk[a]! x) dk i' j) := hid (by rw [← HI5.out, scanDown_end (fun x => S.lt dk[a]! x) dk i' j' (Or.inr HV.out)])
                go_wp2_with (go_at_fn S.g; refine HL.out.mono ?_; rintro e w1 ⟨rfl, hS1, hK1⟩; have HS6 := hid hS1; have HK6 := hid hK1; have y1 := (HD5.out.kept hK1).c1; have y2 := (HD5.out.kept hK1).lt; clear hS1 hK1)
                obtain ⟨w4, hr, hS4, hK4⟩ := HS6.out.swpI HO.out ((i' : Nat) : Int) ((j' : Nat) : Int) i' j' rfl rfl (by omega) (by omega)
                rw [hr, Oper.upon_value]
                have HS7 := hid hS4
                have HK7 := hid (HK6.out.trans hK4)
                clear hS4 hK4 hr
                go_wp2
                go_roundw
                case rel => exact ⟨i' + 1, j' - 1, _, by go_num, by congr 1; omega, by omega, by omega, by omega, HS7.out, HD5.out.kept HK7.out, HK5.out.trans HK7.out, by rw [← HIr.out, pe_go HI2.out HJ2.out (by omega)]⟩
                case measure => simp [intOf]; omega
            · have de5 : decide ((i' : Int) ≤ (j' : Int)) = false := by simp; omega
              have HJ2 : Hid (j' = Sort.scanDown (fun x => S.lt dk[a]! x) dk i' j) := hid (by rw [← HI5.out, scanDown_end (fun x => S.lt dk[a]! x) dk i' j' (Or.inl e5)])
              go_wp2
              go_ret
              have hfin := pe_end HI2.out HJ2.out (by omega)
              unfold Sort.partitionEqual
              rw [← HIr.out, hfin]
              exact ⟨rfl, HS5.out, HK5.out⟩
      · have de : decide ((i' : Int) ≤ (j : Int)) = false := by simp; omega
        have HI2 : Hid (i' = Sort.scanUp (fun x => !S.lt dk[a]! x) dk j i) := hid (by rw [← HI1.out, scanUp_end (fun x => !S.lt dk[a]! x) dk j i' (Or.inl e)])
        go_wp2
        clear HI1 c0 l0
        go_loopw [10] (fun v w2 => ∃ j' : Nat, v = .int .i64 (j') ∧ j' ≤ j ∧ i' ≤ j' + 2 ∧ S.St w2 dk ∧ S.Dat w2 W.heap.size ∧ KeptBut S.blk W w2 ∧ Sort.scanDown (fun x => S.lt dk[a]! x) dk i' j' = Sort.scanDown (fun x => S.lt dk[a]! x) dk i' j) (fun v _ => (intOf v).toNat)
        case atStart => exact ⟨j, rfl, Nat.le_refl _, by omega, HSr.out, HDr.out, HKr.out, rfl⟩
        case round =>
          obtain ⟨j', rfl, hjj, hij2, hS, hDt, hK, hI⟩ := hrel
          have HS5 := hid hS
          have HD5 := hid hDt
          have HK5 := hid hK
          have HI5 := hid hI
          have y0 := hDt.c0
          have z0 := hDt.lt
          clear hS hDt hK hI
          have e5 : ¬ i' ≤ j' := by omega
          have de5 : decide ((i' : Int) ≤ (j' : Int)) = false := by simp; omega
          have HJ2 : Hid (j' = Sort.scanDown (fun x => S.lt dk[a]! x) dk i' j) := hid (by rw [← HI5.out, scanDown_end (fun x => S.lt dk[a]! x) dk i' j' (Or.inl e5)])
          go_wp2
          go_ret
          have hfin := pe_end HI2.out HJ2.out (by omega)
          unfold Sort.partitionEqual
          rw [← HIr.out, hfin]
          exact ⟨rfl, HS5.out, HK5.out⟩
end Go.Proofs.Qxb6500717aGreat
