/-
  DecodeLayout on sound framing.
-/
import Derived.Test.Qxb6500715aFmtDecode
import Derived.Test.Qxb6500715aFmtTail
import Derived.Deep.RegionHeld3
namespace Go.Proofs.Qxb6500715aFmt
open Go.RowKit
set_option linter.unusedSimpArgs false
set_option linter.unusedVariables false



/-- What the accepted bytes' layout is, and where its bays lie. -/
def decPost (f : Nat → Int) (n : Nat) (w : World) (e : Ending) (w' : World) : Prop :=
  ∃ pb : Nat, w.heap.size ≤ pb ∧ pb < w'.heap.size ∧ (∀ i, i < n → w'.cell? ⟨pb, i * 2, none⟩ = some (.int .i64 (f (9 + 2 * i)))) ∧ (∀ i, i < n → w'.cell? ⟨pb, i * 2 + 1, none⟩ = some (.int .i64 (f (10 + 2 * i)))) ∧
    e = .returned (.tuple #[.agg #[.int .i64 (f 2), .int .i64 (f 3), .int .i64 (f 4), .int .i64 (f 5), .int .i64 (f 6), .int .i64 (f 7), .slice (some ⟨pb, 0, none⟩) n n], .agg #[.int .u8 0, .int .i64 (0)]]) ∧ ∃ z, w' = w.ext z

set_option maxHeartbeats 2000000 in
theorem decode_good (b off len cap : Nat) (f : Nat → Int) (w : World) (hm : len ≤ 1000000) (hlc : len ≤ cap)
    (hr : ∀ i, 0 ≤ f i ∧ f i < 256) (hw0 : 0 < w.heap.size) (hb : b < w.heap.size) (hg0 : w.cell? ⟨0, 0, none⟩ = some (.int .u8 0)) (hg1 : w.cell? ⟨0, 1, none⟩ = some (.int .i64 0))
    (hc : ∀ i, i < len → w.cell? ⟨b, off + i, none⟩ = some (.int .u8 (f i))) (hf : frameOk f len) (n : Nat) (hn8 : f 8 = n) :
    Calls Tryf.prog 17 #[.slice (some ⟨b, off, none⟩) len cap] w fun e w' =>
      (layOk (f 2) (f 3) (f 4) (f 5) (f 6) (f 7) n (fun i => f (9 + 2 * i)) (fun i => f (10 + 2 * i)) ∧ decPost f n w e w') ∨
      (¬ layOk (f 2) (f 3) (f 4) (f 5) (f 6) (f 7) n (fun i => f (9 + 2 * i)) (fun i => f (10 + 2 * i)) ∧ ∃ k o, e = .returned (.tuple #[.agg #[.int .i64 (0), .int .i64 (0), .int .i64 (0), .int .i64 (0), .int .i64 (0), .int .i64 (0), .slice none 0 0], .agg #[.int .u8 k, .int .i64 (o)]]) ∧ (k == 0) = false ∧ ∃ z, w' = w.ext z) := by
  have h9 := hf.1
  have hn : 1 ≤ n ∧ n ≤ 6 := by have := hf.2.2.2.1; omega
  have hlen : len = 10 + 2 * n := by have := hf.2.2.2.2.1; omega
  have HC : Hid (∀ i, i < len → w.cell? ⟨b, off + i, none⟩ = some (.int .u8 (f i))) := hc
  have HR : Hid (∀ i, 0 ≤ f i ∧ f i < 256) := hr
  have HF : Hid (frameOk f len) := hf
  have HL : Hid (len = 10 + 2 * n) := hlen
  have c2 := hc 2 (by omega)
  have c3 := hc 3 (by omega)
  have c4 := hc 4 (by omega)
  have c5 := hc 5 (by omega)
  have c6 := hc 6 (by omega)
  have c7 := hc 7 (by omega)
  have c8 := hc 8 (by omega)
  rw [hn8] at c8
  clear hc hr hf hlen hn8
  have r2 := HR.out 2
  have r3 := HR.out 3
  have r4 := HR.out 4
  have r5 := HR.out 5
  have r6 := HR.out 6
  have r7 := HR.out 7
  have i2 : (2 : Int) < (len : Int) := by omega
  have i3 : (3 : Int) < (len : Int) := by omega
  have i4 : (4 : Int) < (len : Int) := by omega
  have i5 : (5 : Int) < (len : Int) := by omega
  have i6 : (6 : Int) < (len : Int) := by omega
  have i7 : (7 : Int) < (len : Int) := by omega
  have i8 : (8 : Int) < (len : Int) := by omega
  obtain ⟨Z, hZ, -, hmk⟩ := make_is (P := Tryf.prog) 44 43 (.agg #[.int .i64 (0), .int .i64 (0)]) 2 16 Tryf.underlying44 (by kernel_rfl) n (by omega) (by omega)
  go_enter Tryf.func17, Tryf.ntmps17
  go_wp2_with fail
  refine (checkFrame_any b off len cap f _ hm hlc h9 HR.out ?_ ?_ ?_ ?_ ?_).mono ?_
  · (first | omega | (simp only [World.size_ext, World.size_alloc, World.size_setCell, World.size_drew, Array.size_append]; done) | (simp only [World.size_ext, World.size_alloc, World.size_setCell, World.size_drew, Array.size_append]; omega))
  · (first | omega | (simp only [World.size_ext, World.size_alloc, World.size_setCell, World.size_drew, Array.size_append]; done) | (simp only [World.size_ext, World.size_alloc, World.size_setCell, World.size_drew, Array.size_append]; omega))
  · simp [go_sem, ↓IntWalk.iteOmega]; exact hg0
  · simp [go_sem, ↓IntWalk.iteOmega]; exact hg1
  · intro i hi; simp [go_sem, ↓IntWalk.iteOmega]; exact HC.out i hi
  rintro e w' ⟨k, o, rfl, hk, z1, rfl⟩
  obtain rfl : k = 0 := hk.2 HF.out
  clear hk
  go_wp2_with (go_at_call 8; refine (accepted_any _ _ _).mono ?_; rintro e w' ⟨rfl, z2, rfl⟩)
  go_region_held3 (fun w' => w'.cell? ⟨b, off + 2, none⟩ = some (.int .u8 (f 2)) ∧ w'.cell? ⟨b, off + 3, none⟩ = some (.int .u8 (f 3)) ∧ w'.cell? ⟨b, off + 4, none⟩ = some (.int .u8 (f 4)) ∧ w'.cell? ⟨b, off + 5, none⟩ = some (.int .u8 (f 5)) ∧ w'.cell? ⟨b, off + 6, none⟩ = some (.int .u8 (f 6)) ∧ w'.cell? ⟨b, off + 7, none⟩ = some (.int .u8 (f 7))) (simp [go_sem, ↓IntWalk.iteOmega, *]) (fail)
  go_wp2_with fail
  go_loopw [51] (fun i w' => ∃ (k : Nat) (Y : Array Value), k ≤ n ∧ i = .int .i64 (k) ∧ Y.size = n * 2 ∧ (∀ i, i < k → Y[i * 2]? = some (.int .i64 (f (9 + 2 * i)))) ∧ (∀ i, i < k → Y[i * 2 + 1]? = some (.int .i64 (f (10 + 2 * i)))) ∧ ∃ z3, w' = (((((((w.alloc (.cells #[.int .i64 (0), .int .i64 (0), .int .i64 (0), .int .i64 (0), .int .i64 (0), .int .i64 (0), .slice none 0 0] 46)).alloc (.cells #[.int .u8 0, .int .i64 0] 36)).ext z1).alloc (.cells #[.int .u8 0, .int .i64 (o)] 36)).ext z2.drew).alloc (.cells #[.int .i64 (f 2), .int .i64 (f 3), .int .i64 (f 4), .int .i64 (f 5), .int .i64 (f 6), .int .i64 (f 7), .slice (some ⟨w.heap.size + 1 + 1 + z1.heap.size + 1 + z2.heap.size + 1, 0, none⟩) n n] 46)).alloc (.cells Y 43)).ext z3) (fun i _ => n - (intOf i).toNat)
  case atStart => exact ⟨0, Z, Nat.zero_le _, rfl, hZ, fun i hi => by omega, fun i hi => by omega, (Below.rf _).is_ext⟩
  case round =>
    obtain ⟨k, Y, hk, rfl, hY, hy0, hy1, z3, rfl⟩ := hrel
    clear hmk
    by_cases hlt : k < n
    · have hlen := HL.out
      have g0 := HC.out (9 + 2 * k) (by omega)
      have g1 := HC.out (10 + 2 * k) (by omega)
      have s0 := HR.out (9 + 2 * k)
      have s1 := HR.out (10 + 2 * k)
      have e0 : w.cell? ⟨b, off + (9 + 2 * k), none⟩ = some (.int .u8 (f (9 + 2 * k))) := g0
      have e1 : w.cell? ⟨b, off + (9 + 2 * k + 1), none⟩ = some (.int .u8 (f (10 + 2 * k))) := by rw [show 9 + 2 * k + 1 = 10 + 2 * k by omega]; exact g1
      have b1 : 10 + 2 * (k : Int) < (len : Int) := by omega
      obtain ⟨u0, hu0⟩ : ∃ u, Y[k * 2]? = some u := ⟨_, Array.getElem?_eq_getElem (by omega)⟩
      obtain ⟨u1, hu1⟩ : ∃ u, Y[k * 2 + 1]? = some u := ⟨_, Array.getElem?_eq_getElem (by omega)⟩
      clear hlen g0 g1
      go_wp2_with (go_at_call 45; refine (bayOffset_any _ _ (by omega)).mono ?_; rintro e w' ⟨rfl, z4, rfl⟩)
      first | with_reducible refine wp_region_tail_ext2 15 (by kernel_rfl) (by kernel_rfl) ?_ | refine wp_region_tail_ext 15 (by kernel_rfl) (by kernel_rfl) ?_
      simp only [List.take_succ_cons, List.take_zero, List.drop_succ_cons, List.drop_zero]
      repeat (go_big_quiet_step (fail))
      refine wpQuiet_nil ?_
      rintro _ ⟨z, rfl⟩
      go_wp2
      go_roundw
      case rel =>
        refine ⟨k + 1, (Y.setIfInBounds (k * 2) (.int .i64 (f (9 + 2 * k)))).setIfInBounds (k * 2 + 1) (.int .i64 (f (10 + 2 * k))), by omega, by go_num, by simp [hY], ?_, ?_, ⟨_, rfl⟩⟩
        · refine upto (fun i hi => ?_) ?_
          · rw [Array.getElem?_setIfInBounds_ne (by omega), Array.getElem?_setIfInBounds_ne (by omega)]; exact hy0 i hi
          · rw [Array.getElem?_setIfInBounds_ne (by omega), Array.getElem?_setIfInBounds_self_of_lt (by omega)]
        · refine upto (fun i hi => ?_) ?_
          · rw [Array.getElem?_setIfInBounds_ne (by omega), Array.getElem?_setIfInBounds_ne (by omega)]; exact hy1 i hi
          · rw [Array.getElem?_setIfInBounds_self_of_lt (by simp; omega)]
      case measure => simp [intOf]; omega
    · obtain rfl : k = n := by omega
      clear hlt hk
      have HY0 : Hid (∀ i, i < k → Y[i * 2]? = some (.int .i64 (f (9 + 2 * i)))) := hy0
      have HY1 : Hid (∀ i, i < k → Y[i * 2 + 1]? = some (.int .i64 (f (10 + 2 * i)))) := hy1
      clear hy0 hy1
      go_wp2_with fail
      refine (validate_any (f 2) (f 3) (f 4) (f 5) (f 6) (f 7) _ 0 k k (fun i => f (9 + 2 * i)) (fun i => f (10 + 2 * i)) _ (by omega) (by omega) (by omega) (by omega) (Nat.le_refl _) ?_ ?_ ?_ ?_ ?_ ?_).mono ?_
      · (first | omega | (simp only [World.size_ext, World.size_alloc, World.size_setCell, World.size_drew, Array.size_append]; done) | (simp only [World.size_ext, World.size_alloc, World.size_setCell, World.size_drew, Array.size_append]; omega))
      · (first | omega | (simp only [World.size_ext, World.size_alloc, World.size_setCell, World.size_drew, Array.size_append]; done) | (simp only [World.size_ext, World.size_alloc, World.size_setCell, World.size_drew, Array.size_append]; omega))
      · simp [go_sem, ↓IntWalk.iteOmega]; exact hg0
      · simp [go_sem, ↓IntWalk.iteOmega]; exact hg1
      · intro i hi; simp [go_sem, ↓IntWalk.iteOmega]; exact HY0.out i hi
      · intro i hi; simp [go_sem, ↓IntWalk.iteOmega]; exact HY1.out i hi
      rintro e w' ⟨k', o', rfl, hk', z4, rfl⟩
      by_cases hv : layOk (f 2) (f 3) (f 4) (f 5) (f 6) (f 7) k (fun i => f (9 + 2 * i)) (fun i => f (10 + 2 * i))
      · obtain rfl := hk'.2 hv
        have HV : Hid (layOk (f 2) (f 3) (f 4) (f 5) (f 6) (f 7) k (fun i => f (9 + 2 * i)) (fun i => f (10 + 2 * i))) := hv
        clear hk' hv
        go_wp2_with (go_at_call 8; refine (accepted_any _ _ _).mono ?_; rintro e w' ⟨rfl, z5, rfl⟩)
        go_region
        go_wp2
        refine bodyPost_ret (v := .tuple #[.agg #[.int .i64 (f 2), .int .i64 (f 3), .int .i64 (f 4), .int .i64 (f 5), .int .i64 (f 6), .int .i64 (f 7), .slice (some ⟨w.heap.size + 1 + 1 + z1.heap.size + 1 + z2.heap.size + 1, 0, none⟩) k k], .agg #[.int .u8 0, .int .i64 (0)]]) (by simp [results, Tryf.results17, go_sem, ↓IntWalk.iteOmega]) rfl (.inl ⟨HV.out, w.heap.size + 1 + 1 + z1.heap.size + 1 + z2.heap.size + 1, by omega, ?_, ?_, ?_, rfl, ?_⟩)
        · (first | omega | (simp only [World.size_ext, World.size_alloc, World.size_setCell, World.size_drew, Array.size_append]; done) | (simp only [World.size_ext, World.size_alloc, World.size_setCell, World.size_drew, Array.size_append]; omega))
        · intro i hi; simp [go_sem, ↓IntWalk.iteOmega]; exact HY0.out i hi
        · intro i hi; simp [go_sem, ↓IntWalk.iteOmega]; exact HY1.out i hi
        · refine Below.is_ext ?_
          repeat (first | with_reducible exact Below.rf _ | with_reducible exact World.below_ext _ _ | with_reducible refine Below.ex ?_ _ | with_reducible refine Below.al ?_ _ | with_reducible refine Below.setCell ?_ (by simp) _ | with_reducible refine Below.drew ?_)
      · have hkk : (k' == 0) = false := by simp; exact fun h => hv (hk'.1 h)
        have HV : Hid (¬ layOk (f 2) (f 3) (f 4) (f 5) (f 6) (f 7) k (fun i => f (9 + 2 * i)) (fun i => f (10 + 2 * i))) := hv
        clear hk' hv
        go_wp2_with (go_at_call 8; refine (Calls.tf (accepted_any _ _ _) hkk).mono ?_; rintro e w' ⟨rfl, z5, rfl⟩)
        go_region
        go_wp2
        refine bodyPost_ret (v := .tuple #[.agg #[.int .i64 (0), .int .i64 (0), .int .i64 (0), .int .i64 (0), .int .i64 (0), .int .i64 (0), .slice none 0 0], .agg #[.int .u8 k', .int .i64 (o')]]) (by simp [results, Tryf.results17, go_sem, ↓IntWalk.iteOmega]) rfl (.inr ⟨HV.out, k', _, rfl, hkk, ?_⟩)
        refine Below.is_ext ?_
        repeat (first | with_reducible exact Below.rf _ | with_reducible exact World.below_ext _ _ | with_reducible refine Below.ex ?_ _ | with_reducible refine Below.al ?_ _ | with_reducible refine Below.setCell ?_ (by simp) _ | with_reducible refine Below.drew ?_)
end Go.Proofs.Qxb6500715aFmt
