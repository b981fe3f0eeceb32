/-
  Sum, checkFrame.
-/
import Derived.Test.Qxb6500715aFmtValid2
namespace Go.Proofs.Qxb6500715aFmt
open Go.RowKit
set_option linter.unusedSimpArgs false
set_option linter.unusedVariables false

/-- The check byte over the first k of f's bytes. -/
def sumF (f : Nat → Int) : Nat → Int
  | 0 => 0
  | k + 1 => (sumF f k + f k) % 256

theorem sumF_range (f : Nat → Int) (k : Nat) : 0 ≤ sumF f k ∧ sumF f k < 256 := by
  cases k <;> simp only [sumF] <;> omega

set_option maxHeartbeats 400000 in
theorem sum_any (b off len cap : Nat) (f : Nat → Int) (w : World) (hm : len ≤ 1000000)
    (hr : ∀ i, 0 ≤ f i ∧ f i < 256) (hc : ∀ i, i < len → w.cell? ⟨b, off + i, none⟩ = some (.int .u8 (f i))) :
    Calls Tryf.prog 68 #[.slice (some ⟨b, off, none⟩) len cap] w fun e w' => e = .returned (.int .u8 (sumF f len)) ∧ ∃ z, w' = w.ext z := by
  go_enter Tryf.func68, Tryf.ntmps68
  go_wp2
  go_loop [3, 8] (fun s i => ∃ k : Nat, k ≤ len ∧ i = .int .i64 k ∧ s = .int .u8 (sumF f k)) (fun _ i => len - (intOf i).toNat)
  case atStart => exact ⟨0, Nat.zero_le _, rfl, rfl⟩
  case round =>
    obtain ⟨k, hk, rfl, rfl⟩ := hrel
    by_cases hlt : k < len
    · have hck := hc k hlt
      have hrk := hr k
      have hsk := sumF_range f k
      clear hc hr
      go_wp2
      go_round
      case rel => exact ⟨k + 1, by omega, by go_num, rfl⟩
      case measure => simp [intOf]; omega
    · have : k = len := by omega
      subst this
      go_wp2
      go_ret
      exact ⟨rfl, (Below.rf _).is_ext⟩

/-- The framing of an encoded layout is sound. -/
def frameOk (f : Nat → Int) (len : Nat) : Prop :=
  9 ≤ len ∧ f 0 = 70 ∧ f 1 = 1 ∧ (1 ≤ f 8 ∧ f 8 ≤ 6) ∧ (len : Int) = 10 + 2 * f 8 ∧ sumF f (len - 1) = f (len - 1)

theorem checkFrame_short (ao : Option Addr) (len cap : Nat) (w : World) (h : len < 9) :
    Calls Tryf.prog 44 #[.slice ao len cap] w fun e w' => ∃ k o, e = .returned (.agg #[.int .u8 k, .int .i64 (o)]) ∧ k ≠ 0 ∧ ∃ z, w' = w.ext z := by
  go_enter Tryf.func44, Tryf.ntmps44
  go_wp2_with (go_at_call 65; refine (refuse_any _ _ _).mono ?_; rintro e w' ⟨rfl, z, rfl⟩)
  refine bodyPost_ret (v := .agg #[.int .u8 1, .int .i64 (len)]) (by simp [results, Tryf.results44, go_sem, ↓IntWalk.iteOmega]) rfl ⟨1, _, rfl, by decide, ?_⟩
  refine Below.is_ext ?_
  repeat (first | with_reducible exact Below.rf _ | with_reducible exact World.below_ext _ _ | with_reducible refine Below.ex ?_ _ | with_reducible refine Below.al ?_ _ | with_reducible refine Below.setCell ?_ (by simp) _ | with_reducible refine Below.drew ?_)

set_option maxHeartbeats 1000000 in
theorem checkFrame_any (b off len cap : Nat) (f : Nat → Int) (w : World) (hm : len ≤ 1000000) (hlc : len ≤ cap) (h9 : 9 ≤ len)
    (hr : ∀ i, 0 ≤ f i ∧ f i < 256) (hw0 : 0 < w.heap.size) (hb : b < w.heap.size) (hg0 : w.cell? ⟨0, 0, none⟩ = some (.int .u8 0)) (hg1 : w.cell? ⟨0, 1, none⟩ = some (.int .i64 0))
    (hc : ∀ i, i < len → w.cell? ⟨b, off + i, none⟩ = some (.int .u8 (f i))) :
    Calls Tryf.prog 44 #[.slice (some ⟨b, off, none⟩) len cap] w fun e w' => ∃ k o, e = .returned (.agg #[.int .u8 k, .int .i64 (o)]) ∧ (k = 0 ↔ frameOk f len) ∧ ∃ z, w' = w.ext z := by
  have HC : Hid (∀ i, i < len → w.cell? ⟨b, off + i, none⟩ = some (.int .u8 (f i))) := hc
  have HR : Hid (∀ i, 0 ≤ f i ∧ f i < 256) := hr
  have hc0 : w.cell? ⟨b, off, none⟩ = some (.int .u8 (f 0)) := hc 0 (by omega)
  have hc1 := hc 1 (by omega)
  have hc8 := hc 8 (by omega)
  have hl := hc (len - 1) (by omega)
  have r8 := hr 8
  have rl := hr (len - 1)
  clear hc hr
  rcases Bool.eq_false_or_eq_true (f 0 != 70) with e0 | e0
  · go_enter Tryf.func44, Tryf.ntmps44
    go_wp2_with (go_at_call 65; refine (refuse_any _ _ _).mono ?_; rintro e w' ⟨rfl, z, rfl⟩)
    refine bodyPost_ret (v := .agg #[.int .u8 2, .int .i64 (0)]) (by simp [results, Tryf.results44, go_sem, ↓IntWalk.iteOmega]) rfl ⟨2, _, rfl, ?_, ?_⟩
    · refine ⟨fun h => absurd h (by decide), fun h => ?_⟩
      simp [h.2.1] at e0
    · refine Below.is_ext ?_
      repeat (first | with_reducible exact Below.rf _ | with_reducible exact World.below_ext _ _ | with_reducible refine Below.ex ?_ _ | with_reducible refine Below.al ?_ _ | with_reducible refine Below.setCell ?_ (by simp) _ | with_reducible refine Below.drew ?_)
  rcases Bool.eq_false_or_eq_true (f 1 != 1) with e1 | e1
  · go_enter Tryf.func44, Tryf.ntmps44
    go_wp2_with (go_at_call 65; refine (refuse_any _ _ _).mono ?_; rintro e w' ⟨rfl, z, rfl⟩)
    refine bodyPost_ret (v := .agg #[.int .u8 3, .int .i64 (1)]) (by simp [results, Tryf.results44, go_sem, ↓IntWalk.iteOmega]) rfl ⟨3, _, rfl, ?_, ?_⟩
    · refine ⟨fun h => absurd h (by decide), fun h => ?_⟩
      simp [h.2.2.1] at e1
    · refine Below.is_ext ?_
      repeat (first | with_reducible exact Below.rf _ | with_reducible exact World.below_ext _ _ | with_reducible refine Below.ex ?_ _ | with_reducible refine Below.al ?_ _ | with_reducible refine Below.setCell ?_ (by simp) _ | with_reducible refine Below.drew ?_)
  rcases Bool.eq_false_or_eq_true (robotsOk (f 8)) with e2 | e2
  case inr =>
    go_enter Tryf.func44, Tryf.ntmps44
    go_wp2_with (first | (go_at_call 66; refine (Calls.tf (robots_any _ _) e2).mono ?_; rintro e w' ⟨rfl, z, rfl⟩) | (go_at_call 65; refine (refuse_any _ _ _).mono ?_; rintro e w' ⟨rfl, z, rfl⟩))
    refine bodyPost_ret (v := .agg #[.int .u8 4, .int .i64 (8)]) (by simp [results, Tryf.results44, go_sem, ↓IntWalk.iteOmega]) rfl ⟨4, _, rfl, ?_, ?_⟩
    · refine ⟨fun h => absurd h (by decide), fun h => ?_⟩
      have := h.2.2.2.1; simp [robotsOk] at e2; omega
    · refine Below.is_ext ?_
      repeat (first | with_reducible exact Below.rf _ | with_reducible exact World.below_ext _ _ | with_reducible refine Below.ex ?_ _ | with_reducible refine Below.al ?_ _ | with_reducible refine Below.setCell ?_ (by simp) _ | with_reducible refine Below.drew ?_)
  case inl =>
  have e2' : 1 ≤ f 8 ∧ f 8 ≤ 6 := by simpa [robotsOk] using e2
  rcases Bool.eq_false_or_eq_true ((len : Int) != 10 + 2 * f 8) with e3 | e3
  · go_enter Tryf.func44, Tryf.ntmps44
    go_wp2_with (first | (go_at_call 66; refine (Calls.tf (robots_any _ _) e2).mono ?_; rintro e w' ⟨rfl, z, rfl⟩) | (go_at_call 67; refine (encodedLen_any _ _ (by omega)).mono ?_; rintro e w' ⟨rfl, z, rfl⟩) | (go_at_call 65; refine (refuse_any _ _ _).mono ?_; rintro e w' ⟨rfl, z, rfl⟩))
    · refine bodyPost_ret (v := .agg #[.int .u8 5, .int .i64 (10 + 2 * f 8)]) (by simp [results, Tryf.results44, go_sem, ↓IntWalk.iteOmega]) rfl ⟨5, ⟨_, rfl⟩, ?_, ?_⟩
      · refine ⟨fun h => absurd h (by decide), fun h => ?_⟩
        simp [h.2.2.2.2.1] at e3
      · refine Below.is_ext ?_
        repeat (first | with_reducible exact Below.rf _ | with_reducible exact World.below_ext _ _ | with_reducible refine Below.ex ?_ _ | with_reducible refine Below.al ?_ _ | with_reducible refine Below.setCell ?_ (by simp) _ | with_reducible refine Below.drew ?_)
    · refine bodyPost_ret (v := .agg #[.int .u8 5, .int .i64 (len)]) (by simp [results, Tryf.results44, go_sem, ↓IntWalk.iteOmega]) rfl ⟨5, ⟨_, rfl⟩, ?_, ?_⟩
      · refine ⟨fun h => absurd h (by decide), fun h => ?_⟩
        simp [h.2.2.2.2.1] at e3
      · refine Below.is_ext ?_
        repeat (first | with_reducible exact Below.rf _ | with_reducible exact World.below_ext _ _ | with_reducible refine Below.ex ?_ _ | with_reducible refine Below.al ?_ _ | with_reducible refine Below.setCell ?_ (by simp) _ | with_reducible refine Below.drew ?_)
  have hcast : ((len : Int) - 1) = ((len - 1 : Nat) : Int) := by omega
  rcases Bool.eq_false_or_eq_true (sumF f (len - 1) != f (len - 1)) with e4 | e4
  · go_enter Tryf.func44, Tryf.ntmps44
    go_wp2_with (first | (go_at_call 66; refine (Calls.tf (robots_any _ _) e2).mono ?_; rintro e w' ⟨rfl, z, rfl⟩) | (go_at_call 67; refine (encodedLen_any _ _ (by omega)).mono ?_; rintro e w' ⟨rfl, z, rfl⟩) | (go_at_call 65; refine (refuse_any _ _ _).mono ?_; rintro e w' ⟨rfl, z, rfl⟩))
    first | with_reducible refine wp_region_ext2 (by kernel_rfl) (by kernel_rfl) ?_ | refine wp_region_ext (by kernel_rfl) (by kernel_rfl) ?_
    repeat (go_big_quiet_step ((go_at_call 68; exact Calls.ext_of (sum_any b off (len - 1) cap f _ (by omega) HR.out (fun i hi => by simp [go_sem, ↓IntWalk.iteOmega]; exact HC.out i (by omega))))))
    refine wpQuiet_nil ?_
    rintro _ ⟨z, rfl⟩
    go_wp2_with (go_at_call 65; refine (refuse_any _ _ _).mono ?_; rintro e w' ⟨rfl, z, rfl⟩)
    refine bodyPost_ret (v := .agg #[.int .u8 6, .int .i64 ((len - 1 : Nat))]) (by simp [results, Tryf.results44, go_sem, ↓IntWalk.iteOmega]) rfl ⟨6, _, rfl, ?_, ?_⟩
    · refine ⟨fun h => absurd h (by decide), fun h => ?_⟩
      simp [h.2.2.2.2.2] at e4
    · refine Below.is_ext ?_
      repeat (first | with_reducible exact Below.rf _ | with_reducible exact World.below_ext _ _ | with_reducible refine Below.ex ?_ _ | with_reducible refine Below.al ?_ _ | with_reducible refine Below.setCell ?_ (by simp) _ | with_reducible refine Below.drew ?_)
  · go_enter Tryf.func44, Tryf.ntmps44
    go_wp2_with (first | (go_at_call 66; refine (Calls.tf (robots_any _ _) e2).mono ?_; rintro e w' ⟨rfl, z, rfl⟩) | (go_at_call 67; refine (encodedLen_any _ _ (by omega)).mono ?_; rintro e w' ⟨rfl, z, rfl⟩) | (go_at_call 65; refine (refuse_any _ _ _).mono ?_; rintro e w' ⟨rfl, z, rfl⟩))
    first | with_reducible refine wp_region_ext2 (by kernel_rfl) (by kernel_rfl) ?_ | refine wp_region_ext (by kernel_rfl) (by kernel_rfl) ?_
    repeat (go_big_quiet_step ((go_at_call 68; exact Calls.ext_of (sum_any b off (len - 1) cap f _ (by omega) HR.out (fun i hi => by simp [go_sem, ↓IntWalk.iteOmega]; exact HC.out i (by omega))))))
    refine wpQuiet_nil ?_
    rintro _ ⟨z, rfl⟩
    go_wp2
    refine bodyPost_ret (v := .agg #[.int .u8 0, .int .i64 (0)]) (by simp [results, Tryf.results44, go_sem, ↓IntWalk.iteOmega]) rfl ⟨0, _, rfl, ?_, ?_⟩
    · simp at e0 e1 e3 e4
      exact ⟨fun _ => ⟨h9, e0, e1, e2', e3, e4⟩, fun _ => rfl⟩
    · refine Below.is_ext ?_
      repeat (first | with_reducible exact Below.rf _ | with_reducible exact World.below_ext _ _ | with_reducible refine Below.ex ?_ _ | with_reducible refine Below.al ?_ _ | with_reducible refine Below.setCell ?_ (by simp) _ | with_reducible refine Below.drew ?_)
end Go.Proofs.Qxb6500715aFmt
