/-
  modelState's two 'less', and sort.Slice with them (one template for triples and spans).
-/
import Derived.Test.Qxb6500717aGreatSo8
import Derived.Test.Qxb6500717aGreatZp
import Derived.Test.Qxb6500717aGreatZl
import Derived.Test.Qxb6500717aGreatShl
import Derived.Shelf.GgSortFunc.Tiny
namespace Go.Proofs.Qxb6500717aGreat
open Go.RowKit
set_option linter.unusedSimpArgs false
set_option linter.unusedVariables false
set_option linter.unusedSectionVars false
theorem fZ (n : Nat) : Tryz.prog.funcs.findIdx? (·.name == "internal/reflectlite" ++ ".Swapper$" ++ toString (if n = 0 then 1 else if n = 1 then 2 else 9)) = some (if n = 0 then 88 else if n = 1 then 89 else 96) := by
  split
  · kernel_rfl
  · split
    · kernel_rfl
    · kernel_rfl
theorem kZ (ie : TypeInfo) (b0 : Nat) (hb0 : b0 = 24 ∨ b0 = 32) (a : ie.hasPointers = false) (b : ie.bytes = b0) (n : Nat) : Lib.swapperK n ie 25 = if n = 0 then 1 else if n = 1 then 2 else 9 := by
  by_cases h0 : n = 0
  · subst h0; simp [Lib.swapperK]
  · by_cases h1 : n = 1
    · subst h1; simp [Lib.swapperK]
    · rcases hb0 with rfl | rfl <;> simp [Lib.swapperK, a, b, h0, h1]
def ST (blk n c Bs : Nat) (th : Value) (w0 : World) : Srt (Nat × Nat × Nat) :=
  { enc := encT, k := 3, blk := blk, off := 0, n := n, lt := ltT, g := 62, lb := #[.pointer (some ⟨Bs, 0, none⟩)], sf := 96, sb := #[.slice (some ⟨blk, 0, none⟩) n c, th], w0 := w0 }
theorem ieT : ∃ ie, Tryz.prog.info? 84 = some ie ∧ ie.size = 3 ∧ ie.hasPointers = false ∧ ie.bytes = 24 := by
  have h : (Tryz.prog.info? 84).map (fun i => (i.size, i.hasPointers, i.bytes)) = some (3, false, 24) := by kernel_rfl
  cases e : Tryz.prog.info? 84 with
  | none => rw [e] at h; cases h
  | some i =>
    rw [e] at h
    simp only [Option.map_some, Option.some.injEq, Prod.mk.injEq] at h
    exact ⟨i, rfl, h.1, h.2.1, h.2.2⟩
theorem itT : ∃ i, Tryz.prog.info? 27 = some i ∧ i.desc = .slice 84 := by
  have h : (Tryz.prog.info? 27).map (fun i => i.desc) = some (.slice 84) := by kernel_rfl
  cases e : Tryz.prog.info? 27 with
  | none => rw [e] at h; cases h
  | some i =>
    rw [e] at h
    simp only [Option.map_some, Option.some.injEq] at h
    exact ⟨i, rfl, h⟩
theorem holdsT {w : World} {blk : Nat} {d : Array (Nat × Nat × Nat)} (h : Sort.HoldsK encT 3 w blk 0 d) {i : Nat} (hi : i < d.size) : w.cell? ⟨blk, i * 3, none⟩ = some (.int .i64 (d[i]!.1)) ∧ w.cell? ⟨blk, i * 3 + 1, none⟩ = some (.int .i64 (d[i]!.2.1)) ∧ w.cell? ⟨blk, i * 3 + 2, none⟩ = some (.int .i64 (d[i]!.2.2)) := by
  have h0 := (h.cell (i := i) (c := 0) hi (by omega)).1
  have h1 := (h.cell (i := i) (c := 1) hi (by omega)).1
  have h2 := (h.cell (i := i) (c := 2) hi (by omega)).1
  rw [Nat.zero_add] at h0 h1 h2
  exact ⟨h0, h1, h2⟩
theorem okT (blk n c Bs : Nat) (w0 : World) (hblk : blk < w0.heap.size) (hB1 : Bs < w0.heap.size) (hB2 : Bs ≠ blk) (hs : w0.cell? ⟨Bs, 2, none⟩ = some (.slice (some ⟨blk, 0, none⟩) n c)) (hn : n ≤ 1000000000000) : (ST blk n c Bs (typeHandle Tryz.prog 84) w0).Ok where
  hk := fun _ => rfl
  less := fun W d h i j hi hj => by
    have hz : d.size = n := h.sz
    have hi' : i < n := hi
    have hj' : j < n := hj
    obtain ⟨p0, p1, p2⟩ := holdsT (show Sort.HoldsK encT 3 W blk 0 d from h.h) (i := i) (by omega)
    obtain ⟨q0, q1, q2⟩ := holdsT (show Sort.HoldsK encT 3 W blk 0 d from h.h) (i := j) (by omega)
    have hkb : KeptBut blk w0 W := h.kb
    refine (less62 blk Bs n c i j _ _ _ _ _ _ W ((hkb.cell 2 hB1 hB2).trans hs) (Nat.lt_of_lt_of_le hB1 hkb.size) (Nat.lt_of_lt_of_le hblk hkb.size) hi' hj' hn p0 p1 p2 q0 q1 q2).mono ?_
    rintro e w' ⟨rfl, hb⟩
    refine ⟨?_, ⟨fun t ht => ?_, h.kb.below hb h.kb.size, h.sz⟩, KeptBut.of_below hb (Nat.le_refl _)⟩
    · show _ = Ending.returned (.bool (ltT d[i]! d[j]!))
      congr 2
      unfold ltT
      congr 1
      exact propext (by omega)
    have hl : blk < W.heap.size := Nat.lt_of_lt_of_le hblk hkb.size
    have := h.h t ht
    exact ⟨(World.cell?_of_block (hb.block _ hl)).trans this.1, (World.frozen?_of_block (hb.block _ hl)).trans this.2⟩
  eg := enters_of Tryz.func62 (by kernel_rfl) rfl
  swap := by
    obtain ⟨ie, h0, h1, -, -⟩ := ieT
    exact swapSwapsK_of_literal (P := Tryz.prog) false 96 (fun args W => run_callFunc_extern Tryz.func96 (by kernel_rfl) (by kernel_rfl) (by kernel_rfl) (e := Extern.ReflectliteSwapper.swap false) (by kernel_rfl) args W) 84 ie h0 encT 3 (fun _ => rfl) h1 (fun _ => by kernel_rfl)
      (fun x v hv => by simp [encT] at hv; rcases hv with rfl | rfl | rfl <;> rfl) blk 0 n c
  blt := hblk
  nb := by show n < _; omega
def slPostT (blk : Nat) (d : Array (Nat × Nat × Nat)) (w : World) : World → Prop := fun w' => ∃ d', Sort.PermIn 0 d.size d d' ∧ Sort.SortedIn ltT 0 d.size d' ∧ Sort.HoldsK encT 3 w' blk 0 d' ∧ KeptBut blk w w'
theorem sliceT (blk c Bs : Nat) (d : Array (Nat × Nat × Nat)) (w : World) (h2 : 2 ≤ d.size) (hn : d.size ≤ 1000000000000) (hH : Sort.HoldsK encT 3 w blk 0 d) (hblk : blk < w.heap.size) (hB1 : Bs < w.heap.size) (hB2 : Bs ≠ blk)
    (hs : w.cell? ⟨Bs, 2, none⟩ = some (.slice (some ⟨blk, 0, none⟩) d.size c)) :
    Calls Tryz.prog 61 #[.iface 27 (.slice (some ⟨blk, 0, none⟩) d.size c), .func (.func 62) #[] #[.pointer (some ⟨Bs, 0, none⟩)]] w fun e w' => e = .returned (.tuple #[]) ∧ slPostT blk d w w' := by
  obtain ⟨ie, h0, h1, hp, hb⟩ := ieT
  obtain ⟨it, g0, g1⟩ := itT
  have hK := kZ ie 24 (by omega) hp hb d.size
  rw [if_neg (by omega), if_neg (by omega)] at hK
  have hF := fZ d.size
  rw [if_neg (by omega), if_neg (by omega), if_neg (by omega), if_neg (by omega)] at hF
  refine Any.sort_Slice_of_pdq Tryz.laysGg6 27 84 it ie g0 g1 (by kernel_rfl) h0 25 (fun _ => by kernel_rfl) _ d.size c (by omega) 96 (by rw [hK]; exact hF) (.func 62) #[] #[.pointer (some ⟨Bs, 0, none⟩)] w _ ?_
  have hB : sliceBound Tryz.prog 84 ie 25 (some ⟨blk, 0, none⟩) d.size c = #[.slice (some ⟨blk, 0, none⟩) d.size c, typeHandle Tryz.prog 84] := by
    unfold sliceBound; rw [if_neg (by rw [hK]; omega)]
  rw [hB]
  obtain ⟨w1, hw1⟩ : ∃ w1, sliceWorld Tryz.prog Tryz.laysGg6_ren 27 (some ⟨blk, 0, none⟩) d.size c w = w1 := ⟨_, rfl⟩
  have hb1 : Below w.heap.size w w1 := by
    rw [← hw1]; unfold sliceWorld
    exact ((Below.rf _).alloc (Nat.le_refl _) _).alloc (by simp) _
  rw [hw1]
  have kb : KeptBut blk w w1 := KeptBut.of_below hb1 (Nat.le_refl _)
  have hl : blk < w1.heap.size := Nat.lt_of_lt_of_le hblk kb.size
  have O := okT blk d.size c Bs w1 hl (Nat.lt_of_lt_of_le hB1 kb.size) hB2 ((kb.cell 2 hB1 hB2).trans hs) hn
  have hst : (ST blk d.size c Bs (typeHandle Tryz.prog 84) w1).St w1 d := ⟨fun t ht => by
    have := hH t ht
    exact ⟨(World.cell?_of_block (hb1.block _ hblk)).trans this.1, (World.frozen?_of_block (hb1.block _ hblk)).trans this.2⟩, KeptBut.refl _ _, rfl⟩
  have hlim : Lib.bitLen d.size < 4611686018427387904 := Nat.lt_of_le_of_lt (Lib.bitLen_le d.size 62 (by omega) (by omega)) (by omega)
  refine (pdq_any O swoT (d.size + 1) 0 d.size (Lib.bitLen d.size) d w1 (by omega) hst (Nat.zero_le _) (Nat.le_refl _) hlim (Or.inl rfl)).mono ?_
  rintro e w' ⟨rfl, hst', hkb⟩
  have h := Sort.pdq_sorts ltT swoT d 0 d.size (Lib.bitLen d.size) true true (Nat.zero_le _) (Nat.le_refl _) (Or.inl rfl)
  exact ⟨rfl, _, h.1, h.2, hst'.h, kb.trans hkb⟩
theorem tinyT (p : Option Addr) (n c Bs : Nat) (w : World) (h1 : n ≤ 1) :
    Calls Tryz.prog 61 #[.iface 27 (.slice p n c), .func (.func 62) #[] #[.pointer (some ⟨Bs, 0, none⟩)]] w fun e w' => e = .returned (.tuple #[]) ∧ Below w.heap.size w w' := by
  obtain ⟨ie, h0, h1', hp, hb⟩ := ieT
  obtain ⟨it, g0, g1⟩ := itT
  refine (Any.sort_Slice_tiny Tryz.laysGg6 27 84 it ie g0 g1 (by kernel_rfl) h0 25 (fun _ => by kernel_rfl) p n c h1 _ (by rw [kZ ie 24 (by omega) hp hb n]; exact fZ n) (.func 62) #[] #[.pointer (some ⟨Bs, 0, none⟩)] w).mono ?_
  rintro e w' ⟨rfl, os, rfl⟩
  exact ⟨rfl, ⟨rfl, rfl, rfl, by show w.heap.size ≤ (w.heap ++ os).size; rw [Array.size_append]; omega, fun _ hj => Sort.heap_grow_old w os hj⟩⟩
def SQ (blk n c Bs : Nat) (th : Value) (w0 : World) : Srt (Nat × Nat × Nat × Nat) :=
  { enc := encQ, k := 4, blk := blk, off := 0, n := n, lt := ltQ, g := 63, lb := #[.pointer (some ⟨Bs, 0, none⟩)], sf := 96, sb := #[.slice (some ⟨blk, 0, none⟩) n c, th], w0 := w0 }
theorem ieQ : ∃ ie, Tryz.prog.info? 86 = some ie ∧ ie.size = 4 ∧ ie.hasPointers = false ∧ ie.bytes = 32 := by
  have h : (Tryz.prog.info? 86).map (fun i => (i.size, i.hasPointers, i.bytes)) = some (4, false, 32) := by kernel_rfl
  cases e : Tryz.prog.info? 86 with
  | none => rw [e] at h; cases h
  | some i =>
    rw [e] at h
    simp only [Option.map_some, Option.some.injEq, Prod.mk.injEq] at h
    exact ⟨i, rfl, h.1, h.2.1, h.2.2⟩
theorem itQ : ∃ i, Tryz.prog.info? 28 = some i ∧ i.desc = .slice 86 := by
  have h : (Tryz.prog.info? 28).map (fun i => i.desc) = some (.slice 86) := by kernel_rfl
  cases e : Tryz.prog.info? 28 with
  | none => rw [e] at h; cases h
  | some i =>
    rw [e] at h
    simp only [Option.map_some, Option.some.injEq] at h
    exact ⟨i, rfl, h⟩
theorem holdsQ {w : World} {blk : Nat} {d : Array (Nat × Nat × Nat × Nat)} (h : Sort.HoldsK encQ 4 w blk 0 d) {i : Nat} (hi : i < d.size) : w.cell? ⟨blk, i * 4, none⟩ = some (.int .i64 (d[i]!.1)) ∧ w.cell? ⟨blk, i * 4 + 1, none⟩ = some (.int .i64 (d[i]!.2.1)) ∧ w.cell? ⟨blk, i * 4 + 2, none⟩ = some (.int .i64 (d[i]!.2.2.1)) ∧ w.cell? ⟨blk, i * 4 + 3, none⟩ = some (.int .i64 (d[i]!.2.2.2)) := by
  have h0 := (h.cell (i := i) (c := 0) hi (by omega)).1
  have h1 := (h.cell (i := i) (c := 1) hi (by omega)).1
  have h2 := (h.cell (i := i) (c := 2) hi (by omega)).1
  have h3 := (h.cell (i := i) (c := 3) hi (by omega)).1
  rw [Nat.zero_add] at h0 h1 h2 h3
  exact ⟨h0, h1, h2, h3⟩
theorem okQ (blk n c Bs : Nat) (w0 : World) (hblk : blk < w0.heap.size) (hB1 : Bs < w0.heap.size) (hB2 : Bs ≠ blk) (hs : w0.cell? ⟨Bs, 3, none⟩ = some (.slice (some ⟨blk, 0, none⟩) n c)) (hn : n ≤ 1000000000000) : (SQ blk n c Bs (typeHandle Tryz.prog 86) w0).Ok where
  hk := fun _ => rfl
  less := fun W d h i j hi hj => by
    have hz : d.size = n := h.sz
    have hi' : i < n := hi
    have hj' : j < n := hj
    obtain ⟨p0, p1, p2, p3⟩ := holdsQ (show Sort.HoldsK encQ 4 W blk 0 d from h.h) (i := i) (by omega)
    obtain ⟨q0, q1, q2, q3⟩ := holdsQ (show Sort.HoldsK encQ 4 W blk 0 d from h.h) (i := j) (by omega)
    have hkb : KeptBut blk w0 W := h.kb
    refine (less63 blk Bs n c i j _ _ _ _ _ _ _ _ W ((hkb.cell 3 hB1 hB2).trans hs) (Nat.lt_of_lt_of_le hB1 hkb.size) (Nat.lt_of_lt_of_le hblk hkb.size) hi' hj' hn p0 p1 p2 p3 q0 q1 q2 q3).mono ?_
    rintro e w' ⟨rfl, hb⟩
    refine ⟨?_, ⟨fun t ht => ?_, h.kb.below hb h.kb.size, h.sz⟩, KeptBut.of_below hb (Nat.le_refl _)⟩
    · show _ = Ending.returned (.bool (ltQ d[i]! d[j]!))
      congr 2
      unfold ltQ
      congr 1
      exact propext (by omega)
    have hl : blk < W.heap.size := Nat.lt_of_lt_of_le hblk hkb.size
    have := h.h t ht
    exact ⟨(World.cell?_of_block (hb.block _ hl)).trans this.1, (World.frozen?_of_block (hb.block _ hl)).trans this.2⟩
  eg := enters_of Tryz.func63 (by kernel_rfl) rfl
  swap := by
    obtain ⟨ie, h0, h1, -, -⟩ := ieQ
    exact swapSwapsK_of_literal (P := Tryz.prog) false 96 (fun args W => run_callFunc_extern Tryz.func96 (by kernel_rfl) (by kernel_rfl) (by kernel_rfl) (e := Extern.ReflectliteSwapper.swap false) (by kernel_rfl) args W) 86 ie h0 encQ 4 (fun _ => rfl) h1 (fun _ => by kernel_rfl)
      (fun x v hv => by simp [encQ] at hv; rcases hv with rfl | rfl | rfl | rfl <;> rfl) blk 0 n c
  blt := hblk
  nb := by show n < _; omega
def slPostQ (blk : Nat) (d : Array (Nat × Nat × Nat × Nat)) (w : World) : World → Prop := fun w' => ∃ d', Sort.PermIn 0 d.size d d' ∧ Sort.SortedIn ltQ 0 d.size d' ∧ Sort.HoldsK encQ 4 w' blk 0 d' ∧ KeptBut blk w w'
theorem sliceQ (blk c Bs : Nat) (d : Array (Nat × Nat × Nat × Nat)) (w : World) (h2 : 2 ≤ d.size) (hn : d.size ≤ 1000000000000) (hH : Sort.HoldsK encQ 4 w blk 0 d) (hblk : blk < w.heap.size) (hB1 : Bs < w.heap.size) (hB2 : Bs ≠ blk)
    (hs : w.cell? ⟨Bs, 3, none⟩ = some (.slice (some ⟨blk, 0, none⟩) d.size c)) :
    Calls Tryz.prog 61 #[.iface 28 (.slice (some ⟨blk, 0, none⟩) d.size c), .func (.func 63) #[] #[.pointer (some ⟨Bs, 0, none⟩)]] w fun e w' => e = .returned (.tuple #[]) ∧ slPostQ blk d w w' := by
  obtain ⟨ie, h0, h1, hp, hb⟩ := ieQ
  obtain ⟨it, g0, g1⟩ := itQ
  have hK := kZ ie 32 (by omega) hp hb d.size
  rw [if_neg (by omega), if_neg (by omega)] at hK
  have hF := fZ d.size
  rw [if_neg (by omega), if_neg (by omega), if_neg (by omega), if_neg (by omega)] at hF
  refine Any.sort_Slice_of_pdq Tryz.laysGg6 28 86 it ie g0 g1 (by kernel_rfl) h0 25 (fun _ => by kernel_rfl) _ d.size c (by omega) 96 (by rw [hK]; exact hF) (.func 63) #[] #[.pointer (some ⟨Bs, 0, none⟩)] w _ ?_
  have hB : sliceBound Tryz.prog 86 ie 25 (some ⟨blk, 0, none⟩) d.size c = #[.slice (some ⟨blk, 0, none⟩) d.size c, typeHandle Tryz.prog 86] := by
    unfold sliceBound; rw [if_neg (by rw [hK]; omega)]
  rw [hB]
  obtain ⟨w1, hw1⟩ : ∃ w1, sliceWorld Tryz.prog Tryz.laysGg6_ren 28 (some ⟨blk, 0, none⟩) d.size c w = w1 := ⟨_, rfl⟩
  have hb1 : Below w.heap.size w w1 := by
    rw [← hw1]; unfold sliceWorld
    exact ((Below.rf _).alloc (Nat.le_refl _) _).alloc (by simp) _
  rw [hw1]
  have kb : KeptBut blk w w1 := KeptBut.of_below hb1 (Nat.le_refl _)
  have hl : blk < w1.heap.size := Nat.lt_of_lt_of_le hblk kb.size
  have O := okQ blk d.size c Bs w1 hl (Nat.lt_of_lt_of_le hB1 kb.size) hB2 ((kb.cell 3 hB1 hB2).trans hs) hn
  have hst : (SQ blk d.size c Bs (typeHandle Tryz.prog 86) w1).St w1 d := ⟨fun t ht => by
    have := hH t ht
    exact ⟨(World.cell?_of_block (hb1.block _ hblk)).trans this.1, (World.frozen?_of_block (hb1.block _ hblk)).trans this.2⟩, KeptBut.refl _ _, rfl⟩
  have hlim : Lib.bitLen d.size < 4611686018427387904 := Nat.lt_of_le_of_lt (Lib.bitLen_le d.size 62 (by omega) (by omega)) (by omega)
  refine (pdq_any O swoQ (d.size + 1) 0 d.size (Lib.bitLen d.size) d w1 (by omega) hst (Nat.zero_le _) (Nat.le_refl _) hlim (Or.inl rfl)).mono ?_
  rintro e w' ⟨rfl, hst', hkb⟩
  have h := Sort.pdq_sorts ltQ swoQ d 0 d.size (Lib.bitLen d.size) true true (Nat.zero_le _) (Nat.le_refl _) (Or.inl rfl)
  exact ⟨rfl, _, h.1, h.2, hst'.h, kb.trans hkb⟩
theorem tinyQ (p : Option Addr) (n c Bs : Nat) (w : World) (h1 : n ≤ 1) :
    Calls Tryz.prog 61 #[.iface 28 (.slice p n c), .func (.func 63) #[] #[.pointer (some ⟨Bs, 0, none⟩)]] w fun e w' => e = .returned (.tuple #[]) ∧ Below w.heap.size w w' := by
  obtain ⟨ie, h0, h1', hp, hb⟩ := ieQ
  obtain ⟨it, g0, g1⟩ := itQ
  refine (Any.sort_Slice_tiny Tryz.laysGg6 28 86 it ie g0 g1 (by kernel_rfl) h0 25 (fun _ => by kernel_rfl) p n c h1 _ (by rw [kZ ie 32 (by omega) hp hb n]; exact fZ n) (.func 63) #[] #[.pointer (some ⟨Bs, 0, none⟩)] w).mono ?_
  rintro e w' ⟨rfl, os, rfl⟩
  exact ⟨rfl, ⟨rfl, rfl, rfl, by show w.heap.size ≤ (w.heap ++ os).size; rw [Array.size_append]; omega, fun _ hj => Sort.heap_grow_old w os hj⟩⟩
end Go.Proofs.Qxb6500717aGreat
