/-
  'same': two states that read alike.
-/
import Derived.Test.Qxb6500717aGreatAll
namespace Go.Proofs.Qxb6500717aGreat
open Go.RowKit
set_option linter.unusedSimpArgs false
set_option linter.unusedVariables false
set_option maxRecDepth 20000
set_option maxHeartbeats 4000000

theorem cell_keep {B : Nat} {w w' : World} (hB : Below B w w') {b i : Nat} (hb : b < B) {v : Value} (h : w.cell? ⟨b, i, none⟩ = some v) : w'.cell? ⟨b, i, none⟩ = some v := by
  rw [World.cell?_of_block (hB.block b hb)]; exact h
theorem look_nil (w : World) : Calls Tryz.prog 9 #[.pointer none] w fun e w' => e = .returned (.agg #[.int .i64 (0), .int .i64 (0), .slice none 0 0, .slice none 0 0]) ∧ ∃ z, w' = w.ext z := by
  go_enter Tryz.func9, Tryz.ntmps9
  go_wp2
  refine bodyPost_ret (v := .agg #[.int .i64 (0), .int .i64 (0), .slice none 0 0, .slice none 0 0]) (by simp [results, Tryz.results9, go_sem, ↓IntWalk.iteOmega]) rfl ?_
  refine ⟨rfl, Below.is_ext ?_⟩
  (repeat (first | with_reducible exact Below.rf _ | with_reducible exact World.below_ext _ _ | with_reducible refine Below.ex ?_ _ | with_reducible refine Below.al ?_ _ | with_reducible refine Below.setCell ?_ (by simp) _ | with_reducible refine Below.drew ?_))

theorem same_yes (hd bs : Int) (xs : List (Nat × Nat × Nat)) (ys : List (Nat × Nat × Nat × Nat)) (tl sl : Nat) (ao1 ao2 ao3 ao4 : Option Addr) (cap1 cap2 cap3 cap4 B1 B2 B3 B4 : Nat) (w : World) (ht : xs.length = tl) (hs : ys.length = sl) (htm : tl ≤ 1000000) (hsm : sl ≤ 1000000)
    (h1 : LAt w B1 (.slice ao1 tl cap1) tl (srow xs)) (h2 : LAt w B2 (.slice ao2 sl cap2) sl (qrow ys)) (h3 : LAt w B3 (.slice ao3 tl cap3) tl (srow xs)) (h4 : LAt w B4 (.slice ao4 sl cap4) sl (qrow ys)) :
    Calls Tryz.prog 10 #[.agg #[.int .i64 (hd), .int .i64 (bs), .slice ao1 tl cap1, .slice ao2 sl cap2], .agg #[.int .i64 (hd), .int .i64 (bs), .slice ao3 tl cap3, .slice ao4 sl cap4]] w fun e w' => e = .returned (.bool true) ∧ Below w.heap.size w w' := by
  have H1 := hid h1
  have H2 := hid h2
  have H3 := hid h3
  have H4 := hid h4
  have HT := hid ht
  have HS := hid hs
  obtain ⟨w1, hw1⟩ : ∃ w1, w1 = (w.alloc (.cells #[.int .i64 (hd), .int .i64 (bs), .slice ao1 tl cap1, .slice ao2 sl cap2] 50)).alloc (.cells #[.int .i64 (hd), .int .i64 (bs), .slice ao3 tl cap3, .slice ao4 sl cap4] 50) := ⟨_, rfl⟩
  have HB1 := hid (show Below w.heap.size w w1 by rw [hw1]; (repeat (first | with_reducible exact Below.rf _ | with_reducible exact World.below_ext _ _ | with_reducible refine Below.ex ?_ _ | with_reducible refine Below.al ?_ _ | with_reducible refine Below.setCell ?_ (by simp) _ | with_reducible refine Below.drew ?_)))
  have LT1 : w.heap.size + 1 < w1.heap.size := by rw [hw1]; simp
  have A2 := hid (show w1.cell? ⟨w.heap.size, 2, none⟩ = some (.slice ao1 tl cap1) by rw [hw1]; simp [go_sem, ↓IntWalk.iteOmega])
  have A3 := hid (show w1.cell? ⟨w.heap.size, 3, none⟩ = some (.slice ao2 sl cap2) by rw [hw1]; simp [go_sem, ↓IntWalk.iteOmega])
  have C2 := hid (show w1.cell? ⟨w.heap.size + 1, 2, none⟩ = some (.slice ao3 tl cap3) by rw [hw1]; simp [go_sem, ↓IntWalk.iteOmega])
  have C3 := hid (show w1.cell? ⟨w.heap.size + 1, 3, none⟩ = some (.slice ao4 sl cap4) by rw [hw1]; simp [go_sem, ↓IntWalk.iteOmega])
  have HW1 := hid hw1
  clear h1 h2 h3 h4 ht hs hw1
  go_enter Tryz.func10, Tryz.ntmps10
  go_wp2
  go_loopw [40] (fun x wr => ∃ i : Nat, x = .int .i64 (i) ∧ i ≤ tl ∧ Below w1.heap.size w1 wr) (fun x _ => tl - (intOf x).toNat)
  case atStart => exact ⟨0, rfl, by omega, by rw [← HW1.out]; exact Below.rf _⟩
  case round =>
    obtain ⟨i, rfl, hi, hB⟩ := hrel
    have HB := hid hB
    have e1 := hB.block w.heap.size (by omega)
    have e2 := hB.block (w.heap.size + 1) (by omega)
    have g2 : wr.cell? ⟨w.heap.size, 2, none⟩ = some (.slice ao1 tl cap1) := by rw [World.cell?_of_block e1]; exact A2.out
    have g3 : wr.cell? ⟨w.heap.size, 3, none⟩ = some (.slice ao2 sl cap2) := by rw [World.cell?_of_block e1]; exact A3.out
    have k2 : wr.cell? ⟨w.heap.size + 1, 2, none⟩ = some (.slice ao3 tl cap3) := by rw [World.cell?_of_block e2]; exact C2.out
    have k3 : wr.cell? ⟨w.heap.size + 1, 3, none⟩ = some (.slice ao4 sl cap4) := by rw [World.cell?_of_block e2]; exact C3.out
    have sb := hB.size
    have hBw : Below w.heap.size w wr := HB1.out.trans (hB.mono (by omega))
    by_cases hlt : i < tl
    · have hkl : i < xs.length := by rw [HT.out]; exact hlt
      have hx : xs[i]? = some xs[i] := List.getElem?_eq_getElem hkl
      generalize xs[i] = x at hx
      obtain ⟨y0, y1, y2⟩ := srow_at _ i x hx
      obtain ⟨ao', cap', e3, l1, e4⟩ := H1.out.below hBw
      simp only [Value.slice.injEq, true_and] at e3
      obtain ⟨rfl, rfl⟩ := e3
      rcases e4 with e4 | ⟨b1, rfl, hb1, hb2, hcc⟩
      · omega
      obtain ⟨ao', cap', e3, l2, e4⟩ := H3.out.below hBw
      simp only [Value.slice.injEq, true_and] at e3
      obtain ⟨rfl, rfl⟩ := e3
      rcases e4 with e4 | ⟨b3, rfl, hb3, hb4, hcd⟩
      · omega
      have p0 := hcc _ _ y0
      have p1 := hcc _ _ y1
      have p2 := hcc _ _ y2
      have r0 := hcd _ _ y0
      have r1 := hcd _ _ y1
      have r2 := hcd _ _ y2
      rw [Nat.mul_comm 3] at p0 p1 p2 r0 r1 r2
      clear hx hkl y0 y1 y2 hcc hcd e1 e2 hB hBw
      go_wp2
      first | with_reducible refine wp_region_ext2 (by kernel_rfl) (by kernel_rfl) ?_ | refine wp_region_ext (by kernel_rfl) (by kernel_rfl) ?_
      repeat (go_big_quiet_step (fail))
      refine wpQuiet_nil ?_
      rintro _ ⟨z, rfl⟩
      go_wp2
      go_roundw
      case rel => exact ⟨i + 1, by go_num, by omega, HB.out.trans (Below.mono (B := wr.heap.size) (by (repeat (first | with_reducible exact Below.rf _ | with_reducible exact World.below_ext _ _ | with_reducible refine Below.ex ?_ _ | with_reducible refine Below.al ?_ _ | with_reducible refine Below.setCell ?_ (by simp) _ | with_reducible refine Below.drew ?_))) sb)⟩
      case measure => simp [intOf]; omega
    · clear e1 e2 hB hBw
      go_wp2
      go_loopw [58] (fun x wz => ∃ i : Nat, x = .int .i64 (i) ∧ i ≤ sl ∧ Below w1.heap.size w1 wz) (fun x _ => sl - (intOf x).toNat)
      case atStart => exact ⟨0, rfl, by omega, HB.out⟩
      case round =>
        clear g2 g3 k2 k3 sb
        obtain ⟨j, rfl, hj, hB⟩ := hrel
        have HBB := hid hB
        have g3 := cell_keep hB (b := w.heap.size) (i := 3) (by omega) A3.out
        have k3 := cell_keep hB (b := w.heap.size + 1) (i := 3) (by omega) C3.out
        have sb := hB.size
        have hBw := HB1.out.trans (hB.mono (by omega))
        by_cases hlt2 : j < sl
        · have hkl : j < ys.length := by rw [HS.out]; exact hlt2
          have hx : ys[j]? = some ys[j] := List.getElem?_eq_getElem hkl
          generalize ys[j] = x at hx
          obtain ⟨y0, y1, y2, y3⟩ := qrow_at _ j x hx
          obtain ⟨ao', cap', e3, l1, e4⟩ := H2.out.below hBw
          simp only [Value.slice.injEq, true_and] at e3
          obtain ⟨rfl, rfl⟩ := e3
          rcases e4 with e4 | ⟨b1, rfl, hb1, hb2, hcc⟩
          · omega
          obtain ⟨ao', cap', e3, l2, e4⟩ := H4.out.below hBw
          simp only [Value.slice.injEq, true_and] at e3
          obtain ⟨rfl, rfl⟩ := e3
          rcases e4 with e4 | ⟨b3, rfl, hb3, hb4, hcd⟩
          · omega
          have p0 := hcc _ _ y0
          have p1 := hcc _ _ y1
          have p2 := hcc _ _ y2
          have p3 := hcc _ _ y3
          have r0 := hcd _ _ y0
          have r1 := hcd _ _ y1
          have r2 := hcd _ _ y2
          have r3 := hcd _ _ y3
          rw [Nat.mul_comm 4] at p0 p1 p2 p3 r0 r1 r2 r3
          clear hx hkl y0 y1 y2 y3 hcc hcd hB hBw
          go_wp2
          first | with_reducible refine wp_region_ext2 (by kernel_rfl) (by kernel_rfl) ?_ | refine wp_region_ext (by kernel_rfl) (by kernel_rfl) ?_
          repeat (go_big_quiet_step (fail))
          refine wpQuiet_nil ?_
          rintro _ ⟨z, rfl⟩
          go_wp2
          go_roundw
          case rel => exact ⟨j + 1, by go_num, by omega, HBB.out.trans (Below.mono (B := (World.heap _).size) (by (repeat (first | with_reducible exact Below.rf _ | with_reducible exact World.below_ext _ _ | with_reducible refine Below.ex ?_ _ | with_reducible refine Below.al ?_ _ | with_reducible refine Below.setCell ?_ (by simp) _ | with_reducible refine Below.drew ?_))) sb)⟩
          case measure => simp [intOf]; omega
        · have HBW := hid hBw
          clear hB hBw
          go_wp2
          go_ret
          exact ⟨rfl, HBW.out⟩

/-! a table or none -/
def hO : Option TabS → Nat
  | none => 0
  | some T => T.held
def bO : Option TabS → Nat
  | none => 0
  | some T => T.base
def tO : Option TabS → List (Nat × Nat × Nat)
  | none => []
  | some T => T.trips
def sO : Option TabS → List (Nat × Nat × Nat × Nat)
  | none => []
  | some T => T.spans
structure LookP (O : Option TabS) (w : World) (e : Ending) (w' : World) (ao1 ao2 : Option Addr) (cap1 cap2 tl sl : Nat) : Prop where
  e : e = .returned (.agg #[.int .i64 (hO O), .int .i64 (bO O), .slice ao1 tl cap1, .slice ao2 sl cap2])
  t : (tO O).length = tl ∧ tl ≤ 1000000
  s : (sO O).length = sl ∧ sl ≤ 1000000
  l1 : LAt w' w.heap.size (.slice ao1 tl cap1) tl (srow (tO O))
  l2 : LAt w' w.heap.size (.slice ao2 sl cap2) sl (qrow (sO O))
  b : Below w.heap.size w w'
theorem lookO_any (lab : Nat → Nat) (tv : Value) (O : Option TabS) (w : World) (h : TabO w lab tv O) : Calls Tryz.prog 9 #[tv] w fun e w' => ∃ ao1 ao2 cap1 cap2 tl sl, LookP O w e w' ao1 ao2 cap1 cap2 tl sl := by
  cases O with
  | none =>
    have e : tv = .pointer none := h
    subst e
    refine (look_nil w).mono ?_
    rintro e w' ⟨rfl, z, rfl⟩
    exact ⟨none, none, 0, 0, 0, 0, rfl, ⟨rfl, by omega⟩, ⟨rfl, by omega⟩, ⟨none, 0, rfl, by omega, Or.inl rfl⟩, ⟨none, 0, rfl, by omega, Or.inl rfl⟩, World.below_ext w z⟩
  | some T =>
    obtain ⟨M, rfl, hT, hC⟩ := h
    refine (look_any M T lab w hT).mono ?_
    rintro e w' ⟨v1, v2, rfl, h1, h2, h3⟩
    have hh := held_len hC
    have h4 := hT.bd.held
    have h5 := hT.bd.cap
    have H1 := h1
    have H2 := h2
    obtain ⟨ao1, cap1, rfl, -⟩ := h1
    obtain ⟨ao2, cap2, rfl, -⟩ := h2
    exact ⟨ao1, ao2, cap1, cap2, T.trips.length, T.spans.length, rfl, ⟨rfl, by omega⟩, ⟨rfl, by omega⟩, H1, H2, h3⟩
end Go.Proofs.Qxb6500717aGreat
