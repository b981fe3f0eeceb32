/-
  Equal: two answers that are the same.
-/
import Derived.Test.Qxb6500716aSm
namespace Go.Proofs.Qxb6500716a
open Go.RowKit Go.Maps
set_option linter.unusedSimpArgs false
set_option linter.unusedVariables false
set_option maxRecDepth 20000
set_option maxHeartbeats 4000000
set_option maxHeartbeats 4000000 in
theorem equal_yes (cd : Nat) (l : List Int) (v v2 : Value) (lab lab2 : Nat → Nat) (w : World) (hI : Ints w lab v l) (hI2 : Ints w lab2 v2 l) (hl : l.length ≤ 1000000) :
    Calls Try.prog 15 #[.agg #[.int .u8 cd, v], .agg #[.int .u8 cd, v2]] w fun e w' => e = .returned (.bool true) ∧ ∃ z, w' = w.ext z := by
  obtain ⟨ao, cap, hv, hc⟩ := hI.ex
  obtain ⟨ao2, cap2, hv2, hc2⟩ := hI2.ex
  have HI := hid hI
  have HI2 := hid hI2
  obtain ⟨n, hn⟩ : ∃ y, l.length = y := ⟨_, rfl⟩
  rw [hn] at hv hv2 hl hc hc2
  have HN := hid hn
  subst hv hv2
  have dcd : ((cd : Int) != (cd : Int)) = false := by simp
  have dnn : ((n : Int) != (n : Int)) = false := by simp
  clear hI hI2 hn
  go_enter Try.func15, Try.ntmps15
  go_wp2
  refine wp_nm fun w1 hw1 => ?_
  have B1 : Below w.heap.size w w1 := by rw [hw1]; (repeat (first | with_reducible exact Below.rf _ | with_reducible exact World.below_ext _ _ | with_reducible refine Below.ex ?_ _ | with_reducible refine Below.al ?_ _ | with_reducible refine Below.setCell ?_ (by simp) _ | with_reducible refine Below.drew ?_))
  have c1 : w1.cell? ⟨w.heap.size, 1, none⟩ = some (.slice ao n cap) := by rw [hw1]; simp [go_sem, ↓IntWalk.iteOmega]
  have c2 : w1.cell? ⟨w.heap.size + 1, 1, none⟩ = some (.slice ao2 n cap2) := by rw [hw1]; simp [go_sem, ↓IntWalk.iteOmega]
  have hs1 : w1.heap.size = w.heap.size + 2 := by rw [hw1]; simp
  have HB1 := hid B1
  obtain ⟨b1, hb1⟩ : ∃ y, w.heap.size = y := ⟨_, rfl⟩
  rw [hb1] at c1 c2 hs1 ⊢
  have HBB := hid hb1
  clear hw1 B1 hb1
  go_loopw [23] (fun x wr => ∃ k : Nat, x = .int .i64 (k) ∧ k ≤ n ∧ Below w1.heap.size w1 wr) (fun x _ => n - (intOf x).toNat)
  case atStart => exact ⟨0, rfl, Nat.zero_le _, Below.rf _⟩
  case round =>
    obtain ⟨k, rfl, hk, hB⟩ := hrel
    have HB := hid hB
    have d1 := (World.cell?_of_block (hB.block b1 (by omega))).trans c1
    have d2 := (World.cell?_of_block (hB.block (b1 + 1) (by omega))).trans c2
    have hsz := hB.size
    by_cases hkn : k < n
    · have dk : decide ((k : Int) < (n : Int)) = true := by simp; omega
      have dkn : decide (k < n) = true := by simp; omega
      have hkl : k < l.length := by rw [HN.out]; exact hkn
      have hx : l[k]? = some l[k] := List.getElem?_eq_getElem hkl
      generalize l[k] = y at *
      have hb0 := HB1.out.trans (hB.mono HB1.out.size)
      obtain ⟨b2, a2, n2, p2, e1, e2, -, e3⟩ := HI.out.row k y hx
      obtain ⟨b3, a3, n3, p3, f1, f2, -, f3⟩ := HI2.out.row k y hx
      simp only [Value.slice.injEq] at e1 f1
      obtain ⟨rfl, -, -⟩ := e1
      obtain ⟨rfl, -, -⟩ := f1
      have e3' := (World.cell?_of_block (hb0.block b2 e2)).trans e3
      have f3' := (World.cell?_of_block (hb0.block b3 f2)).trans f3
      have hl2 := Nat.lt_of_lt_of_le e2 hb0.size
      have hl3 := Nat.lt_of_lt_of_le f2 hb0.size
      have dy : (y != y) = false := by simp
      clear hx hkl e3 f3 hB hb0 e2 f2
      go_wp2
      first | with_reducible refine wp_region_ext2 (by kernel_rfl) (by kernel_rfl) ?_ | refine wp_region_ext (by kernel_rfl) (by kernel_rfl) ?_
      repeat (go_big_quiet_step (fail))
      refine wpQuiet_nil ?_
      rintro _ ⟨z, rfl⟩
      go_wp2
      go_roundw
      case rel => exact ⟨k + 1, by go_num, by omega, HB.out.trans (Below.mono (by (repeat (first | with_reducible exact Below.rf _ | with_reducible exact World.below_ext _ _ | with_reducible refine Below.ex ?_ _ | with_reducible refine Below.al ?_ _ | with_reducible refine Below.setCell ?_ (by simp) _ | with_reducible refine Below.drew ?_))) HB.out.size)⟩
      case measure => (simp [intOf] <;> omega)
    · have dk : decide ((k : Int) < (n : Int)) = false := by simp; omega
      have dkn : decide (k < n) = false := by simp; omega
      clear hB
      go_wp2
      go_ret
      exact ⟨rfl, (HB1.out.trans (HB.out.mono HB1.out.size)).is_ext⟩
end Go.Proofs.Qxb6500716a
