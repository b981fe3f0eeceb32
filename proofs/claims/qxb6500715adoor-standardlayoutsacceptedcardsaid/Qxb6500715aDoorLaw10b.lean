/-
  StandardLayoutsAccepted: the walk.
-/
import Derived.Test.Qxb6500715aDoorLaw10
namespace Go.Proofs.Qxb6500715aDoor
open Go.RowKit
set_option linter.unusedSimpArgs false
set_option linter.unusedVariables false

set_option maxRecDepth 20000 in
set_option maxHeartbeats 4000000 in
theorem law10 (w : World) (hG : Globs w) : Calls Tryd.prog 10 #[] w fun e w' => e = .returned (.bool true) ∧ ∃ z, w' = w.ext z := by
  have HG := hid hG
  clear hG
  go_enter Tryd.func10, Tryd.ntmps10
  go_wp2
  go_loopw [1] (fun i w' => ∃ a : Nat, (1 ≤ a ∧ a ≤ 8 + 1) ∧ i = .int .i64 (a) ∧ ∃ z, w' = w.ext z) (fun i _ => 8 + 1 - (intOf i).toNat)
  case atStart => exact ⟨1, by omega, rfl, (Below.rf _).is_ext⟩
  case round =>
    obtain ⟨a, ha, rfl, z, rfl⟩ := hrel
    by_cases hla : a ≤ 8
    · have ba : decide ((a : Int) ≤ 8) = true := by simp; omega
      go_wp2
      go_loopw [2] (fun i w' => ∃ s : Nat, (1 ≤ s ∧ s ≤ 12 + 1) ∧ i = .int .i64 (s) ∧ ∃ z, w' = w.ext z) (fun i _ => 12 + 1 - (intOf i).toNat)
      case atStart => exact ⟨1, by omega, rfl, ⟨_, rfl⟩⟩
      case round =>
        obtain ⟨s, hs, rfl, z, rfl⟩ := hrel
        by_cases hls : s ≤ 12
        · have bs : decide ((s : Int) ≤ 12) = true := by simp; omega
          go_wp2
          go_loopw [3] (fun i w' => ∃ p : Nat, (2 ≤ p ∧ p ≤ 3 + 1) ∧ i = .int .i64 (p) ∧ ∃ z, w' = w.ext z) (fun i _ => 3 + 1 - (intOf i).toNat)
          case atStart => exact ⟨2, by omega, rfl, ⟨_, rfl⟩⟩
          case round =>
            obtain ⟨p, hp, rfl, z, rfl⟩ := hrel
            by_cases hlp : p ≤ 3
            · have bp : decide ((p : Int) ≤ 3) = true := by simp; omega
              go_wp2
              go_loopw [4] (fun i w' => ∃ d : Nat, (1 ≤ d ∧ d ≤ 2 + 1) ∧ i = .int .i64 (d) ∧ ∃ z, w' = w.ext z) (fun i _ => 2 + 1 - (intOf i).toNat)
              case atStart => exact ⟨1, by omega, rfl, ⟨_, rfl⟩⟩
              case round =>
                obtain ⟨d, hd, rfl, z, rfl⟩ := hrel
                by_cases hld : d ≤ 2
                · have bd : decide ((d : Int) ≤ 2) = true := by simp; omega
                  go_wp2
                  go_loopw [5] (fun i w' => ∃ n : Nat, (1 ≤ n ∧ n ≤ 6 + 1) ∧ i = .int .i64 (n) ∧ ∃ z, w' = w.ext z) (fun i _ => 6 + 1 - (intOf i).toNat)
                  case atStart => exact ⟨1, by omega, rfl, ⟨_, rfl⟩⟩
                  case round =>
                    obtain ⟨n, hn, rfl, z, rfl⟩ := hrel
                    by_cases hln : n ≤ 6
                    · have bn : decide ((n : Int) ≤ 6) = true := by simp; omega
                      go_wp2_with fail
                      have hB0 : Below w.heap.size w (w.ext z) := World.below_ext w z
                      refine (standard_any a s p d n _ (HG.out.below hB0) (by omega) (by omega) (by omega) (by omega) (by omega)).mono ?_
                      rintro e w1 ⟨pb, cap, o, hcap, hpb1, hpb2, hp0, hp1, rfl, z1, hz1⟩
                      have hB1 : Below w.heap.size w w1 := by rw [hz1]; exact hB0.ex z1
                      have HB1 := hid hB1
                      have HP0 := hid hp0
                      have HP1 := hid hp1
                      have hG1 := hid (HG.out.below hB1)
                      have hw0 := hG1.out.h0
                      have HOK := hid (std_ok a s p d n (by omega) (by omega) (by omega) (by omega) (by omega))
                      have HBY := hid (bytes_of _ _ _ _ _ _ _ _ _ HOK.out)
                      obtain ⟨g, hg⟩ : ∃ g, g = bytesOf a s p d 1 1 n (stdX (((a : Int) - 1) * p + 3) s) (stdY (((a : Int) - 1) * p + 3)) := ⟨_, rfl⟩
                      rw [← hg] at HBY
                      clear hg hz1 hB1 hB0 hp0 hp1
                      go_wp2_with fail
                      refine (encode_any a s p d 1 1 pb 0 n cap (stdX (((a : Int) - 1) * p + 3) s) (stdY (((a : Int) - 1) * p + 3)) _ g hcap ?_ ?_ ?_ ?_ ?_ ?_ HOK.out HBY.out.e0 HBY.out.e1 HBY.out.e2 HBY.out.e3 HBY.out.e4 HBY.out.e5 HBY.out.e6 HBY.out.e7 HBY.out.e8 HBY.out.ex HBY.out.ey HBY.out.es HBY.out.hr).mono ?_
                      · (first | omega | (simp only [World.size_ext, World.size_alloc, World.size_setCell, World.size_drew, Array.size_append]; done) | (simp only [World.size_ext, World.size_alloc, World.size_setCell, World.size_drew, Array.size_append]; omega))
                      · (first | omega | (simp only [World.size_ext, World.size_alloc, World.size_setCell, World.size_drew, Array.size_append]; done) | (simp only [World.size_ext, World.size_alloc, World.size_setCell, World.size_drew, Array.size_append]; omega))
                      · simp [go_sem, ↓IntWalk.iteOmega]; exact hG1.out.g0
                      · simp [go_sem, ↓IntWalk.iteOmega]; exact hG1.out.g1
                      · intro i hi; rw [Nat.zero_add]; simp [go_sem, ↓IntWalk.iteOmega]; exact HP0.out i hi
                      · intro i hi; rw [Nat.zero_add]; simp [go_sem, ↓IntWalk.iteOmega]; exact HP1.out i hi
                      rintro e w3 ⟨v, rfl, hown, z4, rfl⟩
                      obtain ⟨gb, cp, rfl, hcp, hgb, hgb', hgc⟩ := ownsRow_cells hown (by omega)
                      have GC := hid hgc
                      have hgb2 : gb < w1.heap.size + 1 + 1 + z4.heap.size := by simpa [Nat.add_assoc] using hgb'
                      clear hown hgc hgb'
                      go_wp2_with (go_at_call 41; refine (accepted_any _ _ _).mono ?_; rintro e w' ⟨rfl, z5, rfl⟩)
                      refine (wellFormed_good gb 0 n cp g _ ?_ hcp HBY.out.hr ?_ HBY.out.e8 HBY.out.ok).mono ?_
                      · (first | omega | (simp only [World.size_ext, World.size_alloc, World.size_setCell, World.size_drew, Array.size_append]; done) | (simp only [World.size_ext, World.size_alloc, World.size_setCell, World.size_drew, Array.size_append]; omega))
                      · intro i hi
                        have hx := GC.out i _ (rowOf_get g _ i hi)
                        rw [Nat.zero_add]
                        simp [go_sem, ↓IntWalk.iteOmega]
                        exact hx
                      rintro e w' ⟨rfl, z6, rfl⟩
                      go_wp2_with fail
                      generalize hX : World.ext (World.alloc (World.ext _ _) _) _ = X
                      have hB4 : Below w.heap.size w X := by rw [← hX]; repeat (first | exact HB1.out | refine Below.ex ?_ _ | refine Below.al ?_ _)
                      have hB5 : Below w1.heap.size w1 X := by rw [← hX]; repeat (first | exact Below.rf _ | refine Below.ex ?_ _ | refine Below.al ?_ _)
                      have L0 : X.cell? ⟨w1.heap.size, 0, none⟩ = some (.int .i64 (a)) := by rw [← hX]; simp [go_sem, ↓IntWalk.iteOmega]
                      have L1 : X.cell? ⟨w1.heap.size, 1, none⟩ = some (.int .i64 (s)) := by rw [← hX]; simp [go_sem, ↓IntWalk.iteOmega]
                      have L2 : X.cell? ⟨w1.heap.size, 2, none⟩ = some (.int .i64 (p)) := by rw [← hX]; simp [go_sem, ↓IntWalk.iteOmega]
                      have L3 : X.cell? ⟨w1.heap.size, 3, none⟩ = some (.int .i64 (d)) := by rw [← hX]; simp [go_sem, ↓IntWalk.iteOmega]
                      have L4 : X.cell? ⟨w1.heap.size, 4, none⟩ = some (.int .i64 (1)) := by rw [← hX]; simp [go_sem, ↓IntWalk.iteOmega]
                      have L5 : X.cell? ⟨w1.heap.size, 5, none⟩ = some (.int .i64 (1)) := by rw [← hX]; simp [go_sem, ↓IntWalk.iteOmega]
                      have L6 : X.cell? ⟨w1.heap.size, 6, none⟩ = some (.slice (some ⟨pb, 0, none⟩) n cap) := by rw [← hX]; simp [go_sem, ↓IntWalk.iteOmega]
                      have hXs : w1.heap.size + 1 + 1 + z4.heap.size + 1 ≤ X.heap.size := by rw [← hX]; simp
                      have GX : Hid (∀ i, i < 10 + 2 * n → X.cell? ⟨gb, i, none⟩ = some (.int .u8 (g i))) := fun i hi => by
                        have hx := GC.out i _ (rowOf_get g _ i hi)
                        rw [← hX]
                        simp [go_sem, ↓IntWalk.iteOmega]
                        exact hx
                      clear hX GC
                      refine (decode_all (some ⟨gb, 0, none⟩) (10 + 2 * n) cp g X (HG.out.below hB4) (by omega) hcp HBY.out.hr (fun _ => ⟨gb, 0, rfl, by omega, fun j hj => by rw [Nat.zero_add]; exact GX.out j hj⟩)).mono ?_
                      rintro e w2 (⟨hok, hpost⟩ | ⟨hno, _⟩)
                      case inr => exact absurd HBY.out.ok hno
                      obtain ⟨qb, hqb1, hqb2, hq0, hq1, rfl, z2, hz2⟩ := hpost
                      have hB6 : Below X.heap.size X w2 := by rw [hz2]; exact World.below_ext _ _
                      have HB7 := hid (hB4.trans (hB6.mono hB4.size))
                      have hlx : w1.heap.size < X.heap.size := by omega
                      rw [← hB6.cell hlx] at L0 L1 L2 L3 L4 L5 L6
                      have hs2 := hB6.size
                      have hpX : pb < X.heap.size := Nat.lt_of_lt_of_le hpb2 hB5.size
                      have Q0 : Hid (∀ i, i < n → w2.cell? ⟨qb, 0 + i * 2, none⟩ = some (.int .i64 ((stdX (((a : Int) - 1) * p + 3) s) i))) := fun i hi => by
                        rw [Nat.zero_add, hq0 i (by rw [HBY.out.e8]; omega), HBY.out.ex i hi]
                      have Q1 : Hid (∀ i, i < n → w2.cell? ⟨qb, 0 + i * 2 + 1, none⟩ = some (.int .i64 ((stdY (((a : Int) - 1) * p + 3)) i))) := fun i hi => by
                        rw [Nat.zero_add, hq1 i (by rw [HBY.out.e8]; omega), HBY.out.ey i hi]
                      have R0 : Hid (∀ i, i < n → w2.cell? ⟨pb, 0 + i * 2, none⟩ = some (.int .i64 ((stdX (((a : Int) - 1) * p + 3) s) i))) := fun i hi => by
                        rw [Nat.zero_add, hB6.cell hpX, hB5.cell hpb2]; exact HP0.out i hi
                      have R1 : Hid (∀ i, i < n → w2.cell? ⟨pb, 0 + i * 2 + 1, none⟩ = some (.int .i64 ((stdY (((a : Int) - 1) * p + 3)) i))) := fun i hi => by
                        rw [Nat.zero_add, hB6.cell hpX, hB5.cell hpb2]; exact HP1.out i hi
                      rw [HBY.out.e2, HBY.out.e3, HBY.out.e4, HBY.out.e5, HBY.out.e6, HBY.out.e7, HBY.out.e8, Int.toNat_natCast]
                      clear hz2 hq0 hq1 hok hB4 hB5 hB6 HP0 HP1 GX HB1 hG1
                      go_wp2_with (go_at_call 41; refine (accepted_any _ _ _).mono ?_; rintro e w' ⟨rfl, z7, rfl⟩)
                      refine (equalLay_same a s p d 1 1 qb 0 n n pb 0 cap (stdX (((a : Int) - 1) * p + 3) s) (stdY (((a : Int) - 1) * p + 3)) _ (by omega) (Nat.le_refl _) hcap ?_ ?_ ?_ ?_ ?_ ?_).mono ?_
                      · (first | omega | (simp only [World.size_ext, World.size_alloc, World.size_setCell, World.size_drew, Array.size_append]; done) | (simp only [World.size_ext, World.size_alloc, World.size_setCell, World.size_drew, Array.size_append]; omega))
                      · (first | omega | (simp only [World.size_ext, World.size_alloc, World.size_setCell, World.size_drew, Array.size_append]; done) | (simp only [World.size_ext, World.size_alloc, World.size_setCell, World.size_drew, Array.size_append]; omega))
                      · intro i hi; simp [go_sem, ↓IntWalk.iteOmega]; exact by simpa using Q0.out i hi
                      · intro i hi; simp [go_sem, ↓IntWalk.iteOmega]; exact by simpa using Q1.out i hi
                      · intro i hi; simp [go_sem, ↓IntWalk.iteOmega]; exact by simpa using R0.out i hi
                      · intro i hi; simp [go_sem, ↓IntWalk.iteOmega]; exact by simpa using R1.out i hi
                      rintro e w' ⟨rfl, z8, rfl⟩
                      go_wp2
                      go_roundw
                      case rel =>
                        refine ⟨n + 1, by omega, by go_num, Below.is_ext ?_⟩
                        repeat (first | exact HB7.out | refine Below.ex ?_ _ | refine Below.al ?_ _)
                      case measure => simp [intOf]; omega
                    · go_wp2
                      go_roundw
                      case rel => exact ⟨d + 1, by omega, by go_num, ⟨_, rfl⟩⟩
                      case measure => simp [intOf]; omega
                · go_wp2
                  go_roundw
                  case rel => exact ⟨p + 1, by omega, by go_num, ⟨_, rfl⟩⟩
                  case measure => simp [intOf]; omega
            · go_wp2
              go_roundw
              case rel => exact ⟨s + 1, by omega, by go_num, ⟨_, rfl⟩⟩
              case measure => simp [intOf]; omega
        · go_wp2
          go_roundw
          case rel => exact ⟨a + 1, by omega, by go_num, ⟨_, rfl⟩⟩
          case measure => simp [intOf]; omega
    · go_wp2
      go_ret
      exact ⟨rfl, ⟨_, rfl⟩⟩
end Go.Proofs.Qxb6500715aDoor
