/-
  partition_func: the walk.
-/
import Derived.Test.Qxb6500717aGreatSo0
namespace Go.Proofs.Qxb6500717aGreat
open Go.RowKit
set_option linter.unusedSimpArgs false
set_option linter.unusedVariables false
set_option linter.unusedSectionVars false
variable {α : Type} [Inhabited α] {S : Srt α}
section
variable {lt : α → α → Bool} {a i j i2 j2 : Nat} {d : Array α}
theorem pl_go (h1 : i2 = Sort.scanUp (fun x => lt x d[a]!) d j i) (h2 : j2 = Sort.scanDown (fun x => !lt x d[a]!) d i2 j) (h : ¬ i2 > j2) : Sort.partLoop lt a i j d = Sort.partLoop lt a (i2 + 1) (j2 - 1) (Sort.swp d i2 j2) := by
  subst h1 h2
  rw [Sort.partLoop_eq, if_neg h]
theorem pl_end (h1 : i2 = Sort.scanUp (fun x => lt x d[a]!) d j i) (h2 : j2 = Sort.scanDown (fun x => !lt x d[a]!) d i2 j) (h : i2 > j2) : Sort.partLoop lt a i j d = (j2, d) := by
  subst h1 h2
  rw [Sort.partLoop_eq, if_pos h]
theorem pt_true {b pivot : Nat} (h1 : i2 = Sort.scanUp (fun x => lt x (Sort.swp d a pivot)[a]!) (Sort.swp d a pivot) (b - 1) (a + 1)) (h2 : j2 = Sort.scanDown (fun x => !lt x (Sort.swp d a pivot)[a]!) (Sort.swp d a pivot) i2 (b - 1)) (h : i2 > j2) :
    Sort.partition lt d a b pivot = (j2, true, Sort.swp (Sort.swp d a pivot) j2 a) := by
  subst h1 h2
  unfold Sort.partition
  simp only [if_pos h]
theorem pt_false {b pivot j3 : Nat} {d3 : Array α} (h1 : i2 = Sort.scanUp (fun x => lt x (Sort.swp d a pivot)[a]!) (Sort.swp d a pivot) (b - 1) (a + 1)) (h2 : j2 = Sort.scanDown (fun x => !lt x (Sort.swp d a pivot)[a]!) (Sort.swp d a pivot) i2 (b - 1)) (h : ¬ i2 > j2)
    (h3 : Sort.partLoop lt a (i2 + 1) (j2 - 1) (Sort.swp (Sort.swp d a pivot) i2 j2) = (j3, d3)) : Sort.partition lt d a b pivot = (j3, false, Sort.swp d3 j3 a) := by
  subst h1 h2
  unfold Sort.partition
  simp only [if_neg h, h3]
end
set_option maxRecDepth 20000 in
set_option maxHeartbeats 8000000 in
theorem part_any (O : S.Ok) (a b pivot : Nat) (d : Array α) (W : World) (h : S.St W d) (hap : a ≤ pivot) (hpb : pivot < b) (hb : b ≤ S.n) :
    Calls Tryz.prog 106 #[S.dv, .int .i64 (a), .int .i64 (b), .int .i64 (pivot)] W fun e w' => e = .returned (.tuple #[.int .i64 ((Sort.partition S.lt d a b pivot).1), .bool (Sort.partition S.lt d a b pivot).2.1]) ∧ S.St w' (Sort.partition S.lt d a b pivot).2.2 ∧ KeptBut S.blk W w' := by
  have eg := O.eg
  have HO := hid O
  have hnb := O.nb
  have HD := hid (Srt.Dat.new h O 120)
  have HS := hid (h.al O (.cells #[.func (.func S.g) #[] S.lb, .func (.func S.sf) #[] S.sb] 120))
  obtain ⟨w4, hr, hS4, hK4⟩ := HS.out.swpI O ((a : Nat) : Int) ((pivot : Nat) : Int) a pivot rfl rfl (by omega) (by omega)
  obtain ⟨dk, hdk⟩ : ∃ dk, dk = Sort.swp d a pivot := ⟨_, rfl⟩
  rw [← hdk] at hS4
  have HDK := hid hdk
  have HS4 := hid hS4
  have HK4 := hid (((KeptBut.refl S.blk W).al _).trans hK4)
  have HD4 := hid (HD.out.kept hK4)
  have c1 := HD.out.c1
  obtain ⟨j, hj⟩ : ∃ j, j = b - 1 := ⟨_, rfl⟩
  have HJ := hid hj
  have hjb : j + 1 ≤ b ∧ b ≤ j + 1 := by omega
  unfold Srt.dv
  clear h hS4 hK4 hdk hj
  go_enter Tryz.func106, Tryz.ntmps106
  go_wp2
  have ej : (b : Int) - 1 = (j : Int) := by omega
  rw [ej]
  clear hr c1 ej
  go_loopw [10] (fun v w2 => ∃ i' : Nat, v = .int .i64 (i') ∧ a + 1 ≤ i' ∧ i' ≤ j + 2 ∧ S.St w2 dk ∧ S.Dat w2 W.heap.size ∧ KeptBut S.blk W w2 ∧ Sort.scanUp (fun x => S.lt x dk[a]!) dk j i' = Sort.scanUp (fun x => S.lt x dk[a]!) dk j (a + 1)) (fun v _ => (j + 2) - (intOf v).toNat)
  case atStart => exact ⟨a + 1, by go_num, Nat.le_refl _, by omega, HS4.out, HD4.out, HK4.out, rfl⟩
  case round =>
    obtain ⟨i', rfl, hii, hij', hS, hDt, hK, hI⟩ := hrel
    clear HS4 HD4 HK4 HS HD
    have HS1 := hid hS
    have HD1 := hid hDt
    have HK1 := hid hK
    have HI1 := hid hI
    have y0 := hDt.c0
    have y9 := hDt.c1
    have z0 := hDt.lt
    clear hS hDt hK hI
    by_cases e : i' ≤ j
    · have de : decide ((i' : Int) ≤ (j : Int)) = true := by simp; omega
      obtain ⟨lv, hlv⟩ : ∃ lv, S.lt dk[i']! dk[a]! = lv := ⟨_, rfl⟩
      have HL := hid (O.lessI _ _ HS1.out ((i' : Nat) : Int) ((a : Nat) : Int) i' a lv rfl rfl (by omega) (by omega) hlv)
      have HV := hid hlv
      clear hlv
      cases lv with
      | true =>
        go_wp2_with (go_at_fn S.g; refine HL.out.mono ?_; rintro e w1 ⟨rfl, hS1, hK1⟩; have HS6 := hid hS1; have HK6 := hid hK1; have y1 := (HD1.out.kept hK1).c1; have y2 := (HD1.out.kept hK1).lt; clear hS1 hK1)
        go_roundw
        case rel => exact ⟨i' + 1, by go_num, by omega, by omega, HS6.out, HD1.out.kept HK6.out, HK1.out.trans HK6.out, by rw [← HI1.out, scanUp_go (fun x => S.lt x dk[a]!) dk j i' e (by simp [HV.out])]⟩
        case measure => simp [intOf]; omega
      | false =>
        have HI2 : Hid (i' = Sort.scanUp (fun x => S.lt x dk[a]!) dk j (a + 1)) := hid (by rw [← HI1.out, scanUp_end (fun x => S.lt x dk[a]!) dk j i' (Or.inr (by simp [HV.out]))])
        go_wp2_with (go_at_fn S.g; refine HL.out.mono ?_; rintro e w1 ⟨rfl, hS1, hK1⟩; have HS6 := hid hS1; have HK6 := hid hK1; have y1 := (HD1.out.kept hK1).c1; have y2 := (HD1.out.kept hK1).lt; clear hS1 hK1)
        clear HL HV HI1 y0 y9 z0
        go_loopw [11] (fun v w2 => ∃ j' : Nat, v = .int .i64 (j') ∧ j' ≤ j ∧ i' ≤ j' + 2 ∧ S.St w2 dk ∧ S.Dat w2 W.heap.size ∧ KeptBut S.blk W w2 ∧ Sort.scanDown (fun x => !S.lt x dk[a]!) dk i' j' = Sort.scanDown (fun x => !S.lt x dk[a]!) dk i' j) (fun v _ => (intOf v).toNat)
        case atStart => exact ⟨j, rfl, Nat.le_refl _, by omega, HS6.out, HD1.out.kept HK6.out, HK1.out.trans HK6.out, rfl⟩
        case round =>
          obtain ⟨j', rfl, hjj, hij2, hS, hDt, hK, hI⟩ := hrel
          clear HS6 HK6 y1 y2
          have HS5 := hid hS
          have HD5 := hid hDt
          have HK5 := hid hK
          have HI5 := hid hI
          have y0 := hDt.c0
          have y9 := hDt.c1
          have z0 := hDt.lt
          clear hS hDt hK hI
          by_cases e5 : i' ≤ j'
          · have de5 : decide ((i' : Int) ≤ (j' : Int)) = true := by simp; omega
            obtain ⟨lv, hlv⟩ : ∃ lv, S.lt dk[j']! dk[a]! = lv := ⟨_, rfl⟩
            have HL := hid (O.lessI _ _ HS5.out ((j' : Nat) : Int) ((a : Nat) : Int) j' a lv rfl rfl (by omega) (by omega) hlv)
            have HV := hid hlv
            clear hlv
            cases lv with
            | false =>
              go_wp2_with (go_at_fn S.g; refine HL.out.mono ?_; rintro e w1 ⟨rfl, hS1, hK1⟩; have HS6 := hid hS1; have HK6 := hid hK1; have y1 := (HD5.out.kept hK1).c1; have y2 := (HD5.out.kept hK1).lt; clear hS1 hK1)
              go_roundw
              case rel => exact ⟨j' - 1, by congr 1; omega, by omega, by omega, HS6.out, HD5.out.kept HK6.out, HK5.out.trans HK6.out, by rw [← HI5.out, scanDown_go (fun x => !S.lt x dk[a]!) dk i' j' e5 (by omega) (by simp [HV.out])]⟩
              case measure => simp [intOf]; omega
            | true =>
              have HJ2 : Hid (j' = Sort.scanDown (fun x => !S.lt x dk[a]!) dk i' j) := hid (by rw [← HI5.out, scanDown_end (fun x => !S.lt x dk[a]!) dk i' j' (Or.inr (by simp [HV.out]))])
              go_wp2_with (go_at_fn S.g; refine HL.out.mono ?_; rintro e w1 ⟨rfl, hS1, hK1⟩; have HS6 := hid hS1; have HK6 := hid hK1; have y1 := (HD5.out.kept hK1).c1; have y2 := (HD5.out.kept hK1).lt; clear hS1 hK1)
              obtain ⟨w4, hr, hS4, hK4⟩ := HS6.out.swpI HO.out ((i' : Nat) : Int) ((j' : Nat) : Int) i' j' rfl rfl (by omega) (by omega)
              rw [hr, Oper.upon_value]
              have HM1 := hid hS4
              have HM2 := hid (HD5.out.kept (HK6.out.trans hK4))
              have HM3 := hid (HK5.out.trans (HK6.out.trans hK4))
              rw [HDK.out, HJ.out] at HI2 HJ2
              have HA1 := hid HI2.out
              have HA2 := hid HJ2.out
              have HA3 : Hid (¬ i' > j') := hid (by omega)
              rw [HDK.out] at HM1
              clear hS4 hK4 hr HI2 HJ2 HS6 HK6 HS5 HD5 HK5 HI5 HL HV y0 y9 z0 y1 y2 HS1 HD1 HK1 HDK HJ de de5
              obtain ⟨i0, rfl⟩ : ∃ x, x = i' := ⟨_, rfl⟩
              obtain ⟨j0, rfl⟩ : ∃ x, x = j' := ⟨_, rfl⟩
              go_wp2
              go_loopw [10, 11] (fun v x wr => ∃ (i j : Nat) (dk : Array α), v = .int .i64 (i) ∧ x = .int .i64 (j) ∧ a < i ∧ i ≤ j + 2 ∧ j < b ∧ S.St wr dk ∧ S.Dat wr W.heap.size ∧ KeptBut S.blk W wr ∧ Sort.partLoop S.lt a i j dk = Sort.partLoop S.lt a (i0 + 1) (j0 - 1) (Sort.swp (Sort.swp d a pivot) i0 j0)) (fun v x _ => (intOf x + 2 - intOf v).toNat)
              case atStart => exact ⟨i0 + 1, j0 - 1, _, by go_num, by congr 1; omega, by omega, by omega, by omega, HM1.out, HM2.out, HM3.out, rfl⟩
              case round =>
                obtain ⟨i, j, dk, rfl, rfl, hai, hij, hjb, hS, hDt, hK, hI⟩ := hrel
                clear HM1 HM2 HM3
                have HSr := hid hS
                have HDr := hid hDt
                have HKr := hid hK
                have HIr := hid hI
                clear hS hDt hK hI
                go_wp2
                go_loopw [10] (fun v w2 => ∃ i' : Nat, v = .int .i64 (i') ∧ i ≤ i' ∧ i' ≤ j + 2 ∧ S.St w2 dk ∧ S.Dat w2 W.heap.size ∧ KeptBut S.blk W w2 ∧ Sort.scanUp (fun x => S.lt x dk[a]!) dk j i' = Sort.scanUp (fun x => S.lt x dk[a]!) dk j i) (fun v _ => (j + 2) - (intOf v).toNat)
                case atStart => exact ⟨i, rfl, Nat.le_refl _, hij, HSr.out, HDr.out, HKr.out, rfl⟩
                case round =>
                  obtain ⟨i', rfl, hii, hij', hS, hDt, hK, hI⟩ := hrel
                  clear HSr HDr HKr
                  have HS1 := hid hS
                  have HD1 := hid hDt
                  have HK1 := hid hK
                  have HI1 := hid hI
                  have y0 := hDt.c0
                  have y9 := hDt.c1
                  have z0 := hDt.lt
                  clear hS hDt hK hI
                  by_cases e : i' ≤ j
                  · have de : decide ((i' : Int) ≤ (j : Int)) = true := by simp; omega
                    obtain ⟨lv, hlv⟩ : ∃ lv, S.lt dk[i']! dk[a]! = lv := ⟨_, rfl⟩
                    have HL := hid (O.lessI _ _ HS1.out ((i' : Nat) : Int) ((a : Nat) : Int) i' a lv rfl rfl (by omega) (by omega) hlv)
                    have HV := hid hlv
                    clear hlv
                    cases lv with
                    | true =>
                      go_wp2_with (go_at_fn S.g; refine HL.out.mono ?_; rintro e w1 ⟨rfl, hS1, hK1⟩; have HS6 := hid hS1; have HK6 := hid hK1; have y1 := (HD1.out.kept hK1).c1; have y2 := (HD1.out.kept hK1).lt; clear hS1 hK1)
                      go_roundw
                      case rel => exact ⟨i' + 1, by go_num, by omega, by omega, HS6.out, HD1.out.kept HK6.out, HK1.out.trans HK6.out, by rw [← HI1.out, scanUp_go (fun x => S.lt x dk[a]!) dk j i' e (by simp [HV.out])]⟩
                      case measure => simp [intOf]; omega
                    | false =>
                      have HI2 : Hid (i' = Sort.scanUp (fun x => S.lt x dk[a]!) dk j i) := hid (by rw [← HI1.out, scanUp_end (fun x => S.lt x dk[a]!) dk j i' (Or.inr (by simp [HV.out]))])
                      go_wp2_with (go_at_fn S.g; refine HL.out.mono ?_; rintro e w1 ⟨rfl, hS1, hK1⟩; have HS6 := hid hS1; have HK6 := hid hK1; have y1 := (HD1.out.kept hK1).c1; have y2 := (HD1.out.kept hK1).lt; clear hS1 hK1)
                      clear HL HV HI1 y0 y9 z0
                      go_loopw [11] (fun v w2 => ∃ j' : Nat, v = .int .i64 (j') ∧ j' ≤ j ∧ i' ≤ j' + 2 ∧ S.St w2 dk ∧ S.Dat w2 W.heap.size ∧ KeptBut S.blk W w2 ∧ Sort.scanDown (fun x => !S.lt x dk[a]!) dk i' j' = Sort.scanDown (fun x => !S.lt x dk[a]!) dk i' j) (fun v _ => (intOf v).toNat)
                      case atStart => exact ⟨j, rfl, Nat.le_refl _, by omega, HS6.out, HD1.out.kept HK6.out, HK1.out.trans HK6.out, rfl⟩
                      case round =>
                        obtain ⟨j', rfl, hjj, hij2, hS, hDt, hK, hI⟩ := hrel
                        clear HS6 HK6 y1 y2
                        have HS5 := hid hS
                        have HD5 := hid hDt
                        have HK5 := hid hK
                        have HI5 := hid hI
                        have y0 := hDt.c0
                        have y9 := hDt.c1
                        have z0 := hDt.lt
                        clear hS hDt hK hI
                        by_cases e5 : i' ≤ j'
                        · have de5 : decide ((i' : Int) ≤ (j' : Int)) = true := by simp; omega
                          obtain ⟨lv, hlv⟩ : ∃ lv, S.lt dk[j']! dk[a]! = lv := ⟨_, rfl⟩
                          have HL := hid (O.lessI _ _ HS5.out ((j' : Nat) : Int) ((a : Nat) : Int) j' a lv rfl rfl (by omega) (by omega) hlv)
                          have HV := hid hlv
                          clear hlv
                          cases lv with
                          | false =>
                            go_wp2_with (go_at_fn S.g; refine HL.out.mono ?_; rintro e w1 ⟨rfl, hS1, hK1⟩; have HS6 := hid hS1; have HK6 := hid hK1; have y1 := (HD5.out.kept hK1).c1; have y2 := (HD5.out.kept hK1).lt; clear hS1 hK1)
                            go_roundw
                            case rel => exact ⟨j' - 1, by congr 1; omega, by omega, by omega, HS6.out, HD5.out.kept HK6.out, HK5.out.trans HK6.out, by rw [← HI5.out, scanDown_go (fun x => !S.lt x dk[a]!) dk i' j' e5 (by omega) (by simp [HV.out])]⟩
                            case measure => simp [intOf]; omega
                          | true =>
                            have HJ2 : Hid (j' = Sort.scanDown (fun x => !S.lt x dk[a]!) dk i' j) := hid (by rw [← HI5.out, scanDown_end (fun x => !S.lt x dk[a]!) dk i' j' (Or.inr (by simp [HV.out]))])
                            go_wp2_with (go_at_fn S.g; refine HL.out.mono ?_; rintro e w1 ⟨rfl, hS1, hK1⟩; have HS6 := hid hS1; have HK6 := hid hK1; have y1 := (HD5.out.kept hK1).c1; have y2 := (HD5.out.kept hK1).lt; clear hS1 hK1)
                            obtain ⟨w4, hr, hS4, hK4⟩ := HS6.out.swpI HO.out ((i' : Nat) : Int) ((j' : Nat) : Int) i' j' rfl rfl (by omega) (by omega)
                            rw [hr, Oper.upon_value]
                            have HS7 := hid hS4
                            have HK7 := hid (HK6.out.trans hK4)
                            clear hS4 hK4 hr
                            go_wp2
                            go_roundw
                            case rel => exact ⟨i' + 1, j' - 1, _, by go_num, by congr 1; omega, by omega, by omega, by omega, HS7.out, HD5.out.kept HK7.out, HK5.out.trans HK7.out, by rw [← HIr.out, pl_go HI2.out HJ2.out (by omega)]⟩
                            case measure => simp [intOf]; omega
                        · have de5 : decide ((i' : Int) ≤ (j' : Int)) = false := by simp; omega
                          have HJ2 : Hid (j' = Sort.scanDown (fun x => !S.lt x dk[a]!) dk i' j) := hid (by rw [← HI5.out, scanDown_end (fun x => !S.lt x dk[a]!) dk i' j' (Or.inl e5)])
                          obtain ⟨w4, hr, hS4, hK4⟩ := HS5.out.swpI HO.out ((j' : Nat) : Int) ((a : Nat) : Int) j' a rfl rfl (by omega) (by omega)
                          have HS8 := hid hS4
                          have HK8 := hid hK4
                          clear hS4 hK4
                          go_wp2
                          go_ret2
                          have hfin := pl_end HI2.out HJ2.out (by omega)
                          rw [pt_false HA1.out HA2.out HA3.out (HIr.out.symm.trans hfin)]
                          exact ⟨rfl, HS8.out, HK5.out.trans HK8.out⟩
                  · have de : decide ((i' : Int) ≤ (j : Int)) = false := by simp; omega
                    have HI2 : Hid (i' = Sort.scanUp (fun x => S.lt x dk[a]!) dk j i) := hid (by rw [← HI1.out, scanUp_end (fun x => S.lt x dk[a]!) dk j i' (Or.inl e)])
                    go_wp2
                    clear HI1 y0 y9 z0
                    go_loopw [11] (fun v w2 => ∃ j' : Nat, v = .int .i64 (j') ∧ j' ≤ j ∧ i' ≤ j' + 2 ∧ S.St w2 dk ∧ S.Dat w2 W.heap.size ∧ KeptBut S.blk W w2 ∧ Sort.scanDown (fun x => !S.lt x dk[a]!) dk i' j' = Sort.scanDown (fun x => !S.lt x dk[a]!) dk i' j) (fun v _ => (intOf v).toNat)
                    case atStart => exact ⟨j, rfl, Nat.le_refl _, by omega, HS1.out, HD1.out, HK1.out, rfl⟩
                    case round =>
                      obtain ⟨j', rfl, hjj, hij2, hS, hDt, hK, hI⟩ := hrel
                      have HS5 := hid hS
                      have HD5 := hid hDt
                      have HK5 := hid hK
                      have HI5 := hid hI
                      have y0 := hDt.c0
                      have y9 := hDt.c1
                      have z0 := hDt.lt
                      clear hS hDt hK hI
                      have e5 : ¬ i' ≤ j' := by omega
                      have de5 : decide ((i' : Int) ≤ (j' : Int)) = false := by simp; omega
                      have HJ2 : Hid (j' = Sort.scanDown (fun x => !S.lt x dk[a]!) dk i' j) := hid (by rw [← HI5.out, scanDown_end (fun x => !S.lt x dk[a]!) dk i' j' (Or.inl e5)])
                      obtain ⟨w4, hr, hS4, hK4⟩ := HS5.out.swpI HO.out ((j' : Nat) : Int) ((a : Nat) : Int) j' a rfl rfl (by omega) (by omega)
                      have HS8 := hid hS4
                      have HK8 := hid hK4
                      clear hS4 hK4
                      go_wp2
                      go_ret2
                      have hfin := pl_end HI2.out HJ2.out (by omega)
                      rw [pt_false HA1.out HA2.out HA3.out (HIr.out.symm.trans hfin)]
                      exact ⟨rfl, HS8.out, HK5.out.trans HK8.out⟩
          · have de5 : decide ((i' : Int) ≤ (j' : Int)) = false := by simp; omega
            have HJ2 : Hid (j' = Sort.scanDown (fun x => !S.lt x dk[a]!) dk i' j) := hid (by rw [← HI5.out, scanDown_end (fun x => !S.lt x dk[a]!) dk i' j' (Or.inl e5)])
            rw [HJ.out] at HI2 HJ2
            obtain ⟨w4, hr, hS4, hK4⟩ := HS5.out.swpI HO.out ((j' : Nat) : Int) ((a : Nat) : Int) j' a rfl rfl (by omega) (by omega)
            have HS8 := hid hS4
            have HK8 := hid hK4
            clear hS4 hK4
            go_wp2
            go_ret2
            rw [HDK.out] at HI2 HJ2
            rw [pt_true HI2.out HJ2.out (by omega), ← HDK.out]
            exact ⟨rfl, HS8.out, HK5.out.trans HK8.out⟩
    · have de : decide ((i' : Int) ≤ (j : Int)) = false := by simp; omega
      have HI2 : Hid (i' = Sort.scanUp (fun x => S.lt x dk[a]!) dk j (a + 1)) := hid (by rw [← HI1.out, scanUp_end (fun x => S.lt x dk[a]!) dk j i' (Or.inl e)])
      go_wp2
      clear HI1 y0 y9 z0
      go_loopw [11] (fun v w2 => ∃ j' : Nat, v = .int .i64 (j') ∧ j' ≤ j ∧ i' ≤ j' + 2 ∧ S.St w2 dk ∧ S.Dat w2 W.heap.size ∧ KeptBut S.blk W w2 ∧ Sort.scanDown (fun x => !S.lt x dk[a]!) dk i' j' = Sort.scanDown (fun x => !S.lt x dk[a]!) dk i' j) (fun v _ => (intOf v).toNat)
      case atStart => exact ⟨j, rfl, Nat.le_refl _, by omega, HS1.out, HD1.out, HK1.out, rfl⟩
      case round =>
        obtain ⟨j', rfl, hjj, hij2, hS, hDt, hK, hI⟩ := hrel
        have HS5 := hid hS
        have HD5 := hid hDt
        have HK5 := hid hK
        have HI5 := hid hI
        have y0 := hDt.c0
        have y9 := hDt.c1
        have z0 := hDt.lt
        clear hS hDt hK hI
        have e5 : ¬ i' ≤ j' := by omega
        have de5 : decide ((i' : Int) ≤ (j' : Int)) = false := by simp; omega
        have HJ2 : Hid (j' = Sort.scanDown (fun x => !S.lt x dk[a]!) dk i' j) := hid (by rw [← HI5.out, scanDown_end (fun x => !S.lt x dk[a]!) dk i' j' (Or.inl e5)])
        rw [HJ.out] at HI2 HJ2
        obtain ⟨w4, hr, hS4, hK4⟩ := HS5.out.swpI HO.out ((j' : Nat) : Int) ((a : Nat) : Int) j' a rfl rfl (by omega) (by omega)
        have HS8 := hid hS4
        have HK8 := hid hK4
        clear hS4 hK4
        go_wp2
        go_ret2
        rw [HDK.out] at HI2 HJ2
        rw [pt_true HI2.out HJ2.out (by omega), ← HDK.out]
        exact ⟨rfl, HS8.out, HK5.out.trans HK8.out⟩
end Go.Proofs.Qxb6500717aGreat
