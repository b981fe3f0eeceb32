/-
  WellFormed and Equal, where they answer true.
-/
import Derived.Test.Qxb6500715aDoorLaw8b
namespace Go.Proofs.Qxb6500715aDoor
open Go.RowKit
set_option linter.unusedSimpArgs false
set_option linter.unusedVariables false

/-- The plain sum of the first k bytes. -/
def sumP (f : Nat → Int) : Nat → Int
  | 0 => 0
  | k + 1 => sumP f k + f k

theorem sumP_range (f : Nat → Int) (hr : ∀ i, 0 ≤ f i ∧ f i < 256) (k : Nat) : 0 ≤ sumP f k ∧ sumP f k ≤ 255 * k := by
  induction k with
  | zero => simp [sumP]
  | succ k ih => have := hr k; simp only [sumP]; omega

theorem sumP_mod (f : Nat → Int) (k : Nat) : sumP f k % 256 = sumF f k := by
  induction k with
  | zero => simp [sumP, sumF]
  | succ k ih => simp only [sumP, sumF]; omega

set_option maxRecDepth 20000 in
set_option maxHeartbeats 2000000 in
theorem wellFormed_good (b off n cap : Nat) (f : Nat → Int) (w : World) (hb : b < w.heap.size) (hlc : 10 + 2 * n ≤ cap) (hr : ∀ i, 0 ≤ f i ∧ f i < 256)
    (hc : ∀ i, i < 10 + 2 * n → w.cell? ⟨b, off + i, none⟩ = some (.int .u8 (f i))) (hn : f 8 = n) (hok : decOk f (10 + 2 * n)) :
    Calls Tryd.prog 47 #[.slice (some ⟨b, off, none⟩) (10 + 2 * n) cap] w fun e w' => e = .returned (.bool true) ∧ ∃ z, w' = w.ext z := by
  obtain ⟨⟨x1, e0, e1, h8, x2, hsum⟩, h1, hA, hS, hP, hD, hrr, hcc, hpk⟩ := hok
  have hn' : (f 8).toNat = n := by omega
  rw [hn'] at h1 hpk
  rw [show 10 + 2 * n - 1 = 9 + 2 * n by omega] at hsum
  have HC := hid hc
  have HR := hid hr
  have HP := hid hpk
  have HSM := hid hsum
  have c0 : w.cell? ⟨b, off, none⟩ = some (.int .u8 70) := by rw [← e0]; exact hc 0 (by omega)
  have c1 : w.cell? ⟨b, off + 1, none⟩ = some (.int .u8 1) := by rw [← e1]; exact hc 1 (by omega)
  have c2 := hc 2 (by omega)
  have c3 := hc 3 (by omega)
  have c4 := hc 4 (by omega)
  have c5 := hc 5 (by omega)
  have c6 : w.cell? ⟨b, off + 6, none⟩ = some (.int .u8 1) := by rw [← hrr]; exact hc 6 (by omega)
  have c7 := hc 7 (by omega)
  have c8 : w.cell? ⟨b, off + 8, none⟩ = some (.int .u8 n) := by rw [← hn]; exact hc 8 (by omega)
  have cl := hc (9 + 2 * n) (by omega)
  have r7 := hr 7
  have rl := hr (9 + 2 * n)
  have hp : 0 ≤ (f 2 - 1) * f 4 ∧ (f 2 - 1) * f 4 ≤ 21 := by rcases (by omega : f 4 = 2 ∨ f 4 = 3) with h | h <;> rw [h] <;> omega
  clear x1 x2 hc hr hpk hsum e0 e1 hrr hn hn' h8
  go_enter Tryd.func47, Tryd.ntmps47
  go_wp2
  first | with_reducible refine wp_region_ext2 (by kernel_rfl) (by kernel_rfl) ?_ | refine wp_region_ext (by kernel_rfl) (by kernel_rfl) ?_
  repeat (go_big_quiet_step (fail))
  refine wpQuiet_nil ?_
  rintro _ ⟨z, rfl⟩
  go_wp2
  go_loop [8, 55] (fun s i => ∃ k : Nat, k ≤ 9 + 2 * n ∧ i = .int .i64 (k) ∧ s = .int .i64 (sumP f k)) (fun _ i => 9 + 2 * n - (intOf i).toNat)
  case atStart => exact ⟨0, Nat.zero_le _, rfl, rfl⟩
  case round =>
    obtain ⟨k, hk, rfl, rfl⟩ := hrel
    have hsr := sumP_range f HR.out k
    by_cases hlt : k < 9 + 2 * n
    · have ck := HC.out k (by omega)
      have rk := HR.out k
      go_wp2
      go_round
      case rel => exact ⟨k + 1, by omega, by go_num, rfl⟩
      case measure => simp [intOf]; omega
    · obtain rfl : k = 9 + 2 * n := by omega
      have h6 : decide ((n : Int) ≤ 6) = true := by simp; omega
      have hm : sumP f (9 + 2 * n) % 256 = f (9 + 2 * n) := by rw [sumP_mod]; exact HSM.out
      go_wp2
      go_loopw [15] (fun i w' => ∃ (k : Nat) (z : World), k ≤ n ∧ i = .int .i64 (k) ∧ w' = w.ext z) (fun i _ => n - (intOf i).toNat)
      case atStart => exact ⟨0, z, Nat.zero_le _, rfl, rfl⟩
      case round =>
        obtain ⟨k, z, hk, rfl, rfl⟩ := hrel
        by_cases hlt : k < n
        · have hka := HP.out.1 k hlt
          simp only [onApron, inGrid, Bool.and_eq_true, Bool.or_eq_true, beq_iff_eq, decide_eq_true_eq] at hka
          obtain ⟨⟨hx0, hx1, hy0, hy1⟩, hxx⟩ := hka
          have ck := HC.out (9 + 2 * k) (by omega)
          have dk := HC.out (10 + 2 * k) (by omega)
          obtain ⟨x, hx⟩ : ∃ x, f (9 + 2 * k) = x := ⟨_, rfl⟩
          obtain ⟨y, hy⟩ : ∃ y, f (10 + 2 * k) = y := ⟨_, rfl⟩
          have rx := HR.out (9 + 2 * k)
          have ry := HR.out (10 + 2 * k)
          have HXY := hid (And.intro hx hy)
          rw [hx] at ck rx hx0 hx1 hxx
          rw [hy] at dk ry hy0 hy1
          have hx3 := hid hxx
          clear hx hy hxx
          have hge : decide (y < (f 2 - 1) * f 4 + 3) = true := by simp; omega
          have hge' : decide ((f 2 - 1) * f 4 + 3 ≤ y) = false := by simp; omega
          go_wp2
          first | with_reducible refine wp_region_ext2 (by kernel_rfl) (by kernel_rfl) ?_ | refine wp_region_ext (by kernel_rfl) (by kernel_rfl) ?_
          repeat (go_big_quiet_step (fail))
          refine wpQuiet_nil ?_
          rintro _ ⟨z, rfl⟩
          rcases Bool.eq_false_or_eq_true (x != 0) with hx | hx
          · have hx2 : (x != f 3 + 4 - 1) = false := by have := hx3.out; simp at hx ⊢; omega
            go_wp2
            go_loop [18] (fun i => ∃ (m : Nat), m ≤ k ∧ i = .int .i64 (m)) (fun i => k - (intOf i).toNat)
            case atStart => exact ⟨0, Nat.zero_le _, rfl⟩
            case round =>
              obtain ⟨m, hm', rfl⟩ := hrel
              by_cases hlm : m < k
              · have g0 := HC.out (9 + 2 * m) (by omega)
                have g1 := HC.out (10 + 2 * m) (by omega)
                have s0 := HR.out (9 + 2 * m)
                have s1 := HR.out (10 + 2 * m)
                have hne : ¬ (f (9 + 2 * m) = f (9 + 2 * k) ∧ f (10 + 2 * m) = f (10 + 2 * k)) := HP.out.2 k m hlm hlt
                rw [HXY.out.1, HXY.out.2] at hne
                rcases Bool.eq_false_or_eq_true (f (9 + 2 * m) == x) with e1 | e1
                · rcases Bool.eq_false_or_eq_true (f (10 + 2 * m) == y) with e2 | e2
                  · exact absurd ⟨eq_of_beq e1, eq_of_beq e2⟩ hne
                  · go_wp2
                    go_round
                    case rel => exact ⟨m + 1, by omega, by go_num⟩
                    case measure => simp [intOf]; omega
                · go_wp2
                  go_round
                  case rel => exact ⟨m + 1, by omega, by go_num⟩
                  case measure => simp [intOf]; omega
              · go_wp2
                go_roundw
                case rel => exact ⟨k + 1, _, by omega, by go_num, rfl⟩
                case measure => simp [intOf]; omega
          · go_wp2
            go_loop [18] (fun i => ∃ (m : Nat), m ≤ k ∧ i = .int .i64 (m)) (fun i => k - (intOf i).toNat)
            case atStart => exact ⟨0, Nat.zero_le _, rfl⟩
            case round =>
              obtain ⟨m, hm', rfl⟩ := hrel
              by_cases hlm : m < k
              · have g0 := HC.out (9 + 2 * m) (by omega)
                have g1 := HC.out (10 + 2 * m) (by omega)
                have s0 := HR.out (9 + 2 * m)
                have s1 := HR.out (10 + 2 * m)
                have hne : ¬ (f (9 + 2 * m) = f (9 + 2 * k) ∧ f (10 + 2 * m) = f (10 + 2 * k)) := HP.out.2 k m hlm hlt
                rw [HXY.out.1, HXY.out.2] at hne
                rcases Bool.eq_false_or_eq_true (f (9 + 2 * m) == x) with e1 | e1
                · rcases Bool.eq_false_or_eq_true (f (10 + 2 * m) == y) with e2 | e2
                  · exact absurd ⟨eq_of_beq e1, eq_of_beq e2⟩ hne
                  · go_wp2
                    go_round
                    case rel => exact ⟨m + 1, by omega, by go_num⟩
                    case measure => simp [intOf]; omega
                · go_wp2
                  go_round
                  case rel => exact ⟨m + 1, by omega, by go_num⟩
                  case measure => simp [intOf]; omega
              · go_wp2
                go_roundw
                case rel => exact ⟨k + 1, _, by omega, by go_num, rfl⟩
                case measure => simp [intOf]; omega
        · go_wp2
          go_ret
          exact ⟨rfl, ⟨_, rfl⟩⟩
end Go.Proofs.Qxb6500715aDoor
