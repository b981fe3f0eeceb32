/-
  siftDown_func and heapSort_func: the walks.
-/
import Derived.Test.Qxb6500717aGreatSo0
namespace Go.Proofs.Qxb6500717aGreat
open Go.RowKit
set_option linter.unusedSimpArgs false
set_option linter.unusedVariables false
set_option linter.unusedSectionVars false
variable {α : Type} [Inhabited α] {S : Srt α}
section
variable {lt : α → α → Bool} {hi first root : Nat} {d : Array α}
theorem sift_stop (h : hi ≤ 2 * root + 1) : Sort.siftDown lt hi first root d = d := by rw [Sort.siftDown, dif_pos h]
/-- The greater child. -/
def gch (lt : α → α → Bool) (hi first root : Nat) (d : Array α) : Nat := if 2 * root + 1 + 1 < hi ∧ lt d[first + (2 * root + 1)]! d[first + (2 * root + 1) + 1]! = true then 2 * root + 2 else 2 * root + 1
theorem sift_no (h : 2 * root + 1 < hi) (hl : lt d[first + root]! d[first + gch lt hi first root d]! = false) : Sort.siftDown lt hi first root d = d := by
  rw [Sort.siftDown, dif_neg (by omega)]
  unfold gch at hl
  by_cases e : 2 * root + 1 + 1 < hi ∧ lt d[first + (2 * root + 1)]! d[first + (2 * root + 1) + 1]! = true
  · rw [if_pos e] at hl
    rw [if_pos (by simp [e.1, e.2]), if_pos (by simp [hl])]
  · rw [if_neg e] at hl
    rw [if_neg (by simpa using e), if_pos (by simp [hl])]
theorem sift_go (h : 2 * root + 1 < hi) (hl : lt d[first + root]! d[first + gch lt hi first root d]! = true) : Sort.siftDown lt hi first root d = Sort.siftDown lt hi first (gch lt hi first root d) (Sort.swp d (first + root) (first + gch lt hi first root d)) := by
  rw [Sort.siftDown, dif_neg (by omega)]
  unfold gch at hl ⊢
  by_cases e : 2 * root + 1 + 1 < hi ∧ lt d[first + (2 * root + 1)]! d[first + (2 * root + 1) + 1]! = true
  · rw [if_pos e] at hl ⊢
    rw [if_pos (by simp [e.1, e.2]), if_neg (by simp [hl]), dif_pos (by omega)]
  · rw [if_neg e] at hl ⊢
    rw [if_neg (by simpa using e), if_neg (by simp [hl])]
end
set_option maxRecDepth 20000 in
set_option maxHeartbeats 4000000 in
theorem sift_any (O : S.Ok) (lo hi first : Nat) (d : Array α) (W : World) (h : S.St W d) (hlo : lo ≤ S.n) (hb : first + hi ≤ S.n) :
    Calls Tryz.prog 107 #[S.dv, .int .i64 (lo), .int .i64 (hi), .int .i64 (first)] W (fun e w' => e = .returned (.tuple #[]) ∧ S.St w' (Sort.siftDown S.lt hi first lo d) ∧ KeptBut S.blk W w') := by
  have eg := O.eg
  have HO := hid O
  have hnb := O.nb
  have HD := hid (Srt.Dat.new h O 120)
  have HS := hid (h.al O (.cells #[.func (.func S.g) #[] S.lb, .func (.func S.sf) #[] S.sb] 120))
  unfold Srt.dv
  clear h
  go_enter Tryz.func107, Tryz.ntmps107
  go_wp2
  go_loopw [8] (fun v wr => ∃ (root : Nat) (dk : Array α), v = .int .i64 (root) ∧ (root ≤ S.n) ∧ S.St wr dk ∧ S.Dat wr W.heap.size ∧ KeptBut S.blk W wr ∧ Sort.siftDown S.lt hi first root dk = Sort.siftDown S.lt hi first lo d) (fun v _ => hi - (intOf v).toNat)
  case atStart => exact ⟨lo, d, rfl, hlo, HS.out, HD.out, (KeptBut.refl _ _).al _, rfl⟩
  case round =>
    obtain ⟨root, dk, rfl, hrn, hS, hDt, hK, hI⟩ := hrel
    have HSr := hid hS
    have HDr := hid hDt
    have HKr := hid hK
    have HIr := hid hI
    have c0 := hDt.c0
    have l0 := hDt.lt
    clear hS hDt hK hI HS HD
    by_cases e : 2 * root + 1 < hi
    · by_cases e2 : 2 * root + 1 + 1 < hi
      · obtain ⟨lv, hlv1⟩ : ∃ lv, S.lt dk[first + (2 * root + 1)]! dk[first + (2 * root + 1) + 1]! = lv := ⟨_, rfl⟩
        have HL1 := hid (O.lessI _ _ HSr.out ((first : Int) + (2 * (root : Int) + 1)) ((first : Int) + (2 * (root : Int) + 1) + 1) (first + (2 * root + 1)) (first + (2 * root + 1) + 1) lv (by push_cast; omega) (by push_cast; omega) (by omega) (by omega) hlv1)
        cases lv with
        | true =>
          have hgc : gch S.lt hi first root dk = 2 * root + 2 := by unfold gch; rw [if_pos ⟨e2, hlv1⟩]
          clear hlv1
          have HG2 := hid hgc
          cases hlv : S.lt dk[first + root]! dk[first + (2 * root + 2)]! with
          | true =>
            have HV := hid hlv
            clear hlv hgc
            go_wp2_with (go_at_fn S.g; first | (refine HL1.out.mono ?_; rintro e w1 ⟨rfl, hS1, hK1⟩; have HS3 := hid hS1; have HK3 := hid hK1; have c0 := (HDr.out.kept hK1).c0; have l0 := (HDr.out.kept hK1).lt; clear hS1 hK1 HL1) | (refine (HO.out.lessI _ _ HS3.out _ _ (first + root) (first + (2 * root + 2)) true (by push_cast; omega) (by push_cast; omega) (by omega) (by omega) HV.out).mono ?_; rintro e w2 ⟨rfl, hS1, hK1⟩; have HS4 := hid hS1; have HK4 := hid (HK3.out.trans hK1); have c0 := (HDr.out.kept HK4.out).c0; have c1 := (HDr.out.kept HK4.out).c1; have l0 := (HDr.out.kept HK4.out).lt; clear hS1 hK1))
            obtain ⟨w4, hr, hS4, hK4⟩ := HS4.out.swpI HO.out ((first : Int) + (root : Int)) ((first : Int) + (2 * (root : Int) + 1 + 1)) (first + root) (first + (2 * root + 2)) (by push_cast; omega) (by push_cast; omega) (by omega) (by omega)
            rw [hr, Oper.upon_value]
            have HS5 := hid hS4
            have HK5 := hid (HK4.out.trans hK4)
            clear hS4 hK4 hr
            go_wp2
            go_roundw
            case rel => exact ⟨2 * root + 2, _, by (congr 1; try (push_cast; omega)), by omega, HS5.out, HDr.out.kept HK5.out, HKr.out.trans HK5.out, by rw [← HIr.out, sift_go e (by rw [HG2.out]; exact HV.out), HG2.out]⟩
            case measure => simp [intOf]; omega
          | false =>
            have HV := hid hlv
            clear hlv hgc
            go_wp2_with (go_at_fn S.g; first | (refine HL1.out.mono ?_; rintro e w1 ⟨rfl, hS1, hK1⟩; have HS3 := hid hS1; have HK3 := hid hK1; have c0 := (HDr.out.kept hK1).c0; have l0 := (HDr.out.kept hK1).lt; clear hS1 hK1 HL1) | (refine (HO.out.lessI _ _ HS3.out _ _ (first + root) (first + (2 * root + 2)) false (by push_cast; omega) (by push_cast; omega) (by omega) (by omega) HV.out).mono ?_; rintro e w2 ⟨rfl, hS1, hK1⟩; have HS4 := hid hS1; have HK4 := hid (HK3.out.trans hK1); have c0 := (HDr.out.kept HK4.out).c0; have c1 := (HDr.out.kept HK4.out).c1; have l0 := (HDr.out.kept HK4.out).lt; clear hS1 hK1))
            refine bodyPost_ret (v := .tuple #[]) (by simp [results, Tryz.results107, go_sem, ↓IntWalk.iteOmega]) rfl ?_
            exact ⟨rfl, by rw [← HIr.out, sift_no e (by rw [HG2.out]; exact HV.out)]; exact HS4.out, HKr.out.trans HK4.out⟩
        | false =>
          have hgc : gch S.lt hi first root dk = 2 * root + 1 := by unfold gch; rw [if_neg (fun h => by rw [hlv1] at h; cases h.2)]
          clear hlv1
          have HG2 := hid hgc
          cases hlv : S.lt dk[first + root]! dk[first + (2 * root + 1)]! with
          | true =>
            have HV := hid hlv
            clear hlv hgc
            go_wp2_with (go_at_fn S.g; first | (refine HL1.out.mono ?_; rintro e w1 ⟨rfl, hS1, hK1⟩; have HS3 := hid hS1; have HK3 := hid hK1; have c0 := (HDr.out.kept hK1).c0; have l0 := (HDr.out.kept hK1).lt; clear hS1 hK1 HL1) | (refine (HO.out.lessI _ _ HS3.out _ _ (first + root) (first + (2 * root + 1)) true (by push_cast; omega) (by push_cast; omega) (by omega) (by omega) HV.out).mono ?_; rintro e w2 ⟨rfl, hS1, hK1⟩; have HS4 := hid hS1; have HK4 := hid (HK3.out.trans hK1); have c0 := (HDr.out.kept HK4.out).c0; have c1 := (HDr.out.kept HK4.out).c1; have l0 := (HDr.out.kept HK4.out).lt; clear hS1 hK1))
            obtain ⟨w4, hr, hS4, hK4⟩ := HS4.out.swpI HO.out ((first : Int) + (root : Int)) ((first : Int) + (2 * (root : Int) + 1)) (first + root) (first + (2 * root + 1)) (by push_cast; omega) (by push_cast; omega) (by omega) (by omega)
            rw [hr, Oper.upon_value]
            have HS5 := hid hS4
            have HK5 := hid (HK4.out.trans hK4)
            clear hS4 hK4 hr
            go_wp2
            go_roundw
            case rel => exact ⟨2 * root + 1, _, by (congr 1; try (push_cast; omega)), by omega, HS5.out, HDr.out.kept HK5.out, HKr.out.trans HK5.out, by rw [← HIr.out, sift_go e (by rw [HG2.out]; exact HV.out), HG2.out]⟩
            case measure => simp [intOf]; omega
          | false =>
            have HV := hid hlv
            clear hlv hgc
            go_wp2_with (go_at_fn S.g; first | (refine HL1.out.mono ?_; rintro e w1 ⟨rfl, hS1, hK1⟩; have HS3 := hid hS1; have HK3 := hid hK1; have c0 := (HDr.out.kept hK1).c0; have l0 := (HDr.out.kept hK1).lt; clear hS1 hK1 HL1) | (refine (HO.out.lessI _ _ HS3.out _ _ (first + root) (first + (2 * root + 1)) false (by push_cast; omega) (by push_cast; omega) (by omega) (by omega) HV.out).mono ?_; rintro e w2 ⟨rfl, hS1, hK1⟩; have HS4 := hid hS1; have HK4 := hid (HK3.out.trans hK1); have c0 := (HDr.out.kept HK4.out).c0; have c1 := (HDr.out.kept HK4.out).c1; have l0 := (HDr.out.kept HK4.out).lt; clear hS1 hK1))
            refine bodyPost_ret (v := .tuple #[]) (by simp [results, Tryz.results107, go_sem, ↓IntWalk.iteOmega]) rfl ?_
            exact ⟨rfl, by rw [← HIr.out, sift_no e (by rw [HG2.out]; exact HV.out)]; exact HS4.out, HKr.out.trans HK4.out⟩
      · have hgc : gch S.lt hi first root dk = 2 * root + 1 := by unfold gch; rw [if_neg (fun h => e2 h.1)]
        have HS3 := hid HSr.out
        have HK3 := hid (KeptBut.refl S.blk wr)
        have HG2 := hid hgc
        cases hlv : S.lt dk[first + root]! dk[first + (2 * root + 1)]! with
        | true =>
          have HV := hid hlv
          clear hlv hgc
          go_wp2_with (go_at_fn S.g; first | (refine HL1.out.mono ?_; rintro e w1 ⟨rfl, hS1, hK1⟩; have HS3 := hid hS1; have HK3 := hid hK1; have c0 := (HDr.out.kept hK1).c0; have l0 := (HDr.out.kept hK1).lt; clear hS1 hK1 HL1) | (refine (HO.out.lessI _ _ HS3.out _ _ (first + root) (first + (2 * root + 1)) true (by push_cast; omega) (by push_cast; omega) (by omega) (by omega) HV.out).mono ?_; rintro e w2 ⟨rfl, hS1, hK1⟩; have HS4 := hid hS1; have HK4 := hid (HK3.out.trans hK1); have c0 := (HDr.out.kept HK4.out).c0; have c1 := (HDr.out.kept HK4.out).c1; have l0 := (HDr.out.kept HK4.out).lt; clear hS1 hK1))
          obtain ⟨w4, hr, hS4, hK4⟩ := HS4.out.swpI HO.out ((first : Int) + (root : Int)) ((first : Int) + (2 * (root : Int) + 1)) (first + root) (first + (2 * root + 1)) (by push_cast; omega) (by push_cast; omega) (by omega) (by omega)
          rw [hr, Oper.upon_value]
          have HS5 := hid hS4
          have HK5 := hid (HK4.out.trans hK4)
          clear hS4 hK4 hr
          go_wp2
          go_roundw
          case rel => exact ⟨2 * root + 1, _, by (congr 1; try (push_cast; omega)), by omega, HS5.out, HDr.out.kept HK5.out, HKr.out.trans HK5.out, by rw [← HIr.out, sift_go e (by rw [HG2.out]; exact HV.out), HG2.out]⟩
          case measure => simp [intOf]; omega
        | false =>
          have HV := hid hlv
          clear hlv hgc
          go_wp2_with (go_at_fn S.g; first | (refine HL1.out.mono ?_; rintro e w1 ⟨rfl, hS1, hK1⟩; have HS3 := hid hS1; have HK3 := hid hK1; have c0 := (HDr.out.kept hK1).c0; have l0 := (HDr.out.kept hK1).lt; clear hS1 hK1 HL1) | (refine (HO.out.lessI _ _ HS3.out _ _ (first + root) (first + (2 * root + 1)) false (by push_cast; omega) (by push_cast; omega) (by omega) (by omega) HV.out).mono ?_; rintro e w2 ⟨rfl, hS1, hK1⟩; have HS4 := hid hS1; have HK4 := hid (HK3.out.trans hK1); have c0 := (HDr.out.kept HK4.out).c0; have c1 := (HDr.out.kept HK4.out).c1; have l0 := (HDr.out.kept HK4.out).lt; clear hS1 hK1))
          refine bodyPost_ret (v := .tuple #[]) (by simp [results, Tryz.results107, go_sem, ↓IntWalk.iteOmega]) rfl ?_
          exact ⟨rfl, by rw [← HIr.out, sift_no e (by rw [HG2.out]; exact HV.out)]; exact HS4.out, HKr.out.trans HK4.out⟩
    · go_wp2
      refine bodyPost_end (v := .tuple #[]) (by simp [results, Tryz.results107]) rfl ?_
      exact ⟨rfl, by rw [← HIr.out, sift_stop (by omega)]; exact HSr.out, HKr.out⟩
set_option maxRecDepth 20000 in
set_option maxHeartbeats 4000000 in
theorem heap_any (O : S.Ok) (a b : Nat) (d : Array α) (W : World) (h : S.St W d) (hab : a < b) (hb : b ≤ S.n) :
    Calls Tryz.prog 100 #[S.dv, .int .i64 (a), .int .i64 (b)] W (fun e w' => e = .returned (.tuple #[]) ∧ S.St w' (Sort.heapSort S.lt d a b) ∧ KeptBut S.blk W w') := by
  have eg := O.eg
  have HO := hid O
  have hnb := O.nb
  have HD := hid (Srt.Dat.new h O 120)
  have HS := hid (h.al O (.cells #[.func (.func S.g) #[] S.lb, .func (.func S.sf) #[] S.sb] 120))
  unfold Srt.dv Sort.heapSort
  obtain ⟨hi, hhi⟩ : ∃ hi, b - a = hi := ⟨_, rfl⟩
  rw [hhi]
  have e1 : (b : Int) - (a : Int) = (hi : Int) := by omega
  have hh : 1 ≤ hi ∧ a + hi ≤ S.n := by omega
  obtain ⟨m, hm⟩ : ∃ m, (hi - 1) / 2 = m := ⟨_, rfl⟩
  rw [hm]
  have e2 : ((hi : Int) - 1) / 2 = (m : Int) := by omega
  have hmb : 2 * m + 1 ≤ hi := by omega
  clear h hhi hm
  go_enter Tryz.func100, Tryz.ntmps100
  go_wp2
  rw [e2]
  clear e1 e2
  go_loopw [9] (fun v wr => ∃ (k : Nat) (dk : Array α), v = .int .i64 ((k : Int) - 1) ∧ k ≤ m + 1 ∧ S.St wr dk ∧ S.Dat wr W.heap.size ∧ KeptBut S.blk W wr ∧ Sort.heapBuild S.lt hi a k dk = Sort.heapBuild S.lt hi a (m + 1) d) (fun v _ => (intOf v + 1).toNat)
  case atStart => exact ⟨m + 1, d, by (congr 1; try (push_cast; omega)), Nat.le_refl _, HS.out, HD.out, (KeptBut.refl _ _).al _, rfl⟩
  case round =>
    obtain ⟨k, dk, rfl, hkm, hS, hDt, hK, hI⟩ := hrel
    have HSr := hid hS
    have HDr := hid hDt
    have HKr := hid hK
    have HIr := hid hI
    have c0 := hDt.c0
    have c1 := hDt.c1
    have l0 := hDt.lt
    clear hS hDt hK hI HS HD
    cases k with
    | succ k =>
      have ek : ((k + 1 : Nat) : Int) - 1 = (k : Int) := by omega
      rw [ek]
      clear ek
      have dk0 : decide ((0 : Int) ≤ (k : Int)) = true := by simp
      have HC := hid (sift_any O k hi a dk wr HSr.out (by omega) (by omega))
      unfold Srt.dv at HC
      go_wp2_with (go_at_call 107; refine HC.out.mono ?_; rintro e w1 ⟨rfl, hS1, hK1⟩; have HS3 := hid hS1; have HK3 := hid hK1; clear hS1 hK1)
      go_roundw
      case rel => exact ⟨k, _, by (congr 1; try (push_cast; omega)), by omega, HS3.out, HDr.out.kept HK3.out, HKr.out.trans HK3.out, by rw [← HIr.out]; rfl⟩
      case measure => (simp [intOf]; try omega)
    | zero =>
      have ek : ((0 : Nat) : Int) - 1 = -1 := by omega
      rw [ek]
      clear ek
      go_wp2
      go_loopw [10] (fun v w2 => ∃ (k : Nat) (dj : Array α), v = .int .i64 ((k : Int) - 1) ∧ k ≤ hi ∧ S.St w2 dj ∧ S.Dat w2 W.heap.size ∧ KeptBut S.blk W w2 ∧ Sort.heapPop S.lt a k dj = Sort.heapPop S.lt a hi dk) (fun v _ => (intOf v + 1).toNat)
      case atStart => exact ⟨hi, dk, rfl, Nat.le_refl _, HSr.out, HDr.out, HKr.out, rfl⟩
      case round =>
        obtain ⟨k, dj, rfl, hkm, hS, hDt, hK, hI⟩ := hrel
        clear c0 c1 l0
        have HS2 := hid hS
        have HD2 := hid hDt
        have HK2 := hid hK
        have HI2 := hid hI
        have c0 := hDt.c0
        have c1 := hDt.c1
        have l0 := hDt.lt
        clear hS hDt hK hI
        cases k with
        | succ k =>
          have ek : ((k + 1 : Nat) : Int) - 1 = (k : Int) := by omega
          rw [ek]
          clear ek
          have dk0 : decide ((0 : Int) ≤ (k : Int)) = true := by simp
          obtain ⟨w4, hr, hS4, hK4⟩ := HS2.out.swpI HO.out ((a : Nat) : Int) ((a : Int) + (k : Int)) a (a + k) rfl (by push_cast; omega) (by omega) (by omega)
          have HS5 := hid hS4
          have HK5 := hid hK4
          have HC := hid (sift_any O 0 k a _ w4 hS4 (by omega) (by omega))
          unfold Srt.dv at HC
          have d0 := (HD2.out.kept hK4).c0
          have d1 := (HD2.out.kept hK4).c1
          have m0 := (HD2.out.kept hK4).lt
          clear hS4 hK4
          go_wp2_with (go_at_call 107; refine HC.out.mono ?_; rintro e w1 ⟨rfl, hS1, hK1⟩; have HS3 := hid hS1; have HK3 := hid (HK5.out.trans hK1); clear hS1 hK1)
          go_roundw
          case rel => exact ⟨k, _, by (congr 1; try (push_cast; omega)), by omega, HS3.out, HD2.out.kept HK3.out, HK2.out.trans HK3.out, by rw [← HI2.out]; rfl⟩
          case measure => (simp [intOf]; try omega)
        | zero =>
          have ek : ((0 : Nat) : Int) - 1 = -1 := by omega
          rw [ek]
          clear ek
          go_wp2
          refine bodyPost_end (v := .tuple #[]) (by simp [results, Tryz.results100]) rfl ?_
          refine ⟨rfl, ?_, HK2.out⟩
          have h1 := HIr.out
          have h2 := HI2.out
          simp only [Sort.heapBuild] at h1
          simp only [Sort.heapPop] at h2
          rw [show Sort.heapBuild S.lt hi a (m + 1) d = dk by rw [← HIr.out]; rfl, ← h2]
          exact HS2.out
end Go.Proofs.Qxb6500717aGreat
