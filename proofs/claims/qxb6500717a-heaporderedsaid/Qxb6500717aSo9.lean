/-
  HeapOrdered's 'less', and sort.Slice with it.
-/
import Derived.Test.Qxb6500717aSo8
import Derived.Shelf.GgSortFunc.Tiny
import Derived.Test.Qxb6500717aHx
namespace Go.Proofs.Qxb6500717a
open Go.RowKit
set_option linter.unusedSimpArgs false
set_option linter.unusedVariables false
set_option linter.unusedSectionVars false
def encE (e : Ent) : List Value := [.int .i64 (e.1), .int .i64 (e.2.1), .int .i64 (e.2.2.1), .int .i64 (e.2.2.2)]
def ltE (a b : Ent) : Bool := bef a.1 a.2.1 a.2.2.2 b.1 b.2.1 b.2.2.2
theorem swoE : Sort.SWO ltE where
  irrefl := fun x => by
    cases h : ltE x x with
    | false => rfl
    | true => exact absurd ((bef_lt x x).1 h) (lt_irrefl x)
  trans := fun x y z h1 h2 => (bef_lt x z).2 (lt_trans ((bef_lt x y).1 h1) ((bef_lt y z).1 h2))
  ntrans := fun x y z h1 h2 => by
    cases h : ltE x z with
    | false => rfl
    | true =>
      have a1 : ¬ Lt x y := fun hh => by have := (bef_lt x y).2 hh; unfold ltE at h1; rw [this] at h1; cases h1
      have a2 : ¬ Lt y z := fun hh => by have := (bef_lt y z).2 hh; unfold ltE at h2; rw [this] at h2; cases h2
      have a3 := (bef_lt x z).1 h
      unfold Lt at a1 a2 a3
      omega
set_option maxRecDepth 20000 in
set_option maxHeartbeats 4000000 in
theorem less23 (blk Bs n c i j : Nat) (a0 a1 a2 a3 b0 b1 b2 b3 : Int) (W : World) (hs : W.cell? ⟨Bs, 0, none⟩ = some (.slice (some ⟨blk, 0, none⟩) n c)) (hB : Bs < W.heap.size) (hb : blk < W.heap.size) (hi : i < n) (hj : j < n) (hn : n ≤ 1000000000000)
    (p0 : W.cell? ⟨blk, i * 4, none⟩ = some (.int .i64 (a0))) (p1 : W.cell? ⟨blk, i * 4 + 1, none⟩ = some (.int .i64 (a1))) (p2 : W.cell? ⟨blk, i * 4 + 2, none⟩ = some (.int .i64 (a2))) (p3 : W.cell? ⟨blk, i * 4 + 3, none⟩ = some (.int .i64 (a3)))
    (q0 : W.cell? ⟨blk, j * 4, none⟩ = some (.int .i64 (b0))) (q1 : W.cell? ⟨blk, j * 4 + 1, none⟩ = some (.int .i64 (b1))) (q2 : W.cell? ⟨blk, j * 4 + 2, none⟩ = some (.int .i64 (b2))) (q3 : W.cell? ⟨blk, j * 4 + 3, none⟩ = some (.int .i64 (b3))) :
    Calls Try.prog 23 #[.int .i64 (i), .int .i64 (j), .pointer (some ⟨Bs, 0, none⟩)] W fun e w' => e = .returned (.bool (bef a0 a1 a3 b0 b1 b3)) ∧ Below W.heap.size W w' := by
  unfold bef
  by_cases e0 : a0 = b0
  · have n0 : (a0 != b0) = false := by simp [e0]
    rw [if_neg (by simp [e0])]
    by_cases e1 : a1 = b1
    · have n1 : (a1 != b1) = false := by simp [e1]
      rw [if_neg (by simp [e1])]
      clear e0 e1
      go_enter Try.func23, Try.ntmps23
      go_wp2
      go_region_held3 (fun w' => w'.cell? ⟨Bs, 0, none⟩ = some (.slice (some ⟨blk, 0, none⟩) n c) ∧ w'.cell? ⟨blk, i * 4, none⟩ = some (.int .i64 (a0)) ∧ w'.cell? ⟨blk, i * 4 + 1, none⟩ = some (.int .i64 (a1)) ∧ w'.cell? ⟨blk, i * 4 + 2, none⟩ = some (.int .i64 (a2)) ∧ w'.cell? ⟨blk, i * 4 + 3, none⟩ = some (.int .i64 (a3)) ∧ w'.cell? ⟨blk, j * 4, none⟩ = some (.int .i64 (b0)) ∧ w'.cell? ⟨blk, j * 4 + 1, none⟩ = some (.int .i64 (b1)) ∧ w'.cell? ⟨blk, j * 4 + 2, none⟩ = some (.int .i64 (b2)) ∧ w'.cell? ⟨blk, j * 4 + 3, none⟩ = some (.int .i64 (b3))) (simp [go_sem, ↓IntWalk.iteOmega, *]) (fail)
      all_goals clear p0 p1 p2 p3 q0 q1 q2 q3 hs
      all_goals (go_wp2; go_ret; refine ⟨rfl, ?_⟩; (repeat (first | with_reducible exact Below.rf _ | with_reducible exact World.below_ext _ _ | with_reducible refine Below.ex ?_ _ | with_reducible refine Below.al ?_ _ | with_reducible refine Below.setCell ?_ (by simp) _ | with_reducible refine Below.drew ?_)))
    · have n1 : (a1 != b1) = true := by simp [e1]
      rw [if_pos e1]
      clear e0 e1
      go_enter Try.func23, Try.ntmps23
      go_wp2
      go_region_held3 (fun w' => w'.cell? ⟨Bs, 0, none⟩ = some (.slice (some ⟨blk, 0, none⟩) n c) ∧ w'.cell? ⟨blk, i * 4, none⟩ = some (.int .i64 (a0)) ∧ w'.cell? ⟨blk, i * 4 + 1, none⟩ = some (.int .i64 (a1)) ∧ w'.cell? ⟨blk, i * 4 + 2, none⟩ = some (.int .i64 (a2)) ∧ w'.cell? ⟨blk, i * 4 + 3, none⟩ = some (.int .i64 (a3)) ∧ w'.cell? ⟨blk, j * 4, none⟩ = some (.int .i64 (b0)) ∧ w'.cell? ⟨blk, j * 4 + 1, none⟩ = some (.int .i64 (b1)) ∧ w'.cell? ⟨blk, j * 4 + 2, none⟩ = some (.int .i64 (b2)) ∧ w'.cell? ⟨blk, j * 4 + 3, none⟩ = some (.int .i64 (b3))) (simp [go_sem, ↓IntWalk.iteOmega, *]) (fail)
      all_goals clear p0 p1 p2 p3 q0 q1 q2 q3 hs
      all_goals (go_wp2; go_ret; refine ⟨rfl, ?_⟩; (repeat (first | with_reducible exact Below.rf _ | with_reducible exact World.below_ext _ _ | with_reducible refine Below.ex ?_ _ | with_reducible refine Below.al ?_ _ | with_reducible refine Below.setCell ?_ (by simp) _ | with_reducible refine Below.drew ?_)))
  · have n0 : (a0 != b0) = true := by simp [e0]
    rw [if_pos e0]
    clear e0
    go_enter Try.func23, Try.ntmps23
    go_wp2
    go_region_held3 (fun w' => w'.cell? ⟨Bs, 0, none⟩ = some (.slice (some ⟨blk, 0, none⟩) n c) ∧ w'.cell? ⟨blk, i * 4, none⟩ = some (.int .i64 (a0)) ∧ w'.cell? ⟨blk, i * 4 + 1, none⟩ = some (.int .i64 (a1)) ∧ w'.cell? ⟨blk, i * 4 + 2, none⟩ = some (.int .i64 (a2)) ∧ w'.cell? ⟨blk, i * 4 + 3, none⟩ = some (.int .i64 (a3)) ∧ w'.cell? ⟨blk, j * 4, none⟩ = some (.int .i64 (b0)) ∧ w'.cell? ⟨blk, j * 4 + 1, none⟩ = some (.int .i64 (b1)) ∧ w'.cell? ⟨blk, j * 4 + 2, none⟩ = some (.int .i64 (b2)) ∧ w'.cell? ⟨blk, j * 4 + 3, none⟩ = some (.int .i64 (b3))) (simp [go_sem, ↓IntWalk.iteOmega, *]) (fail)
    all_goals clear p0 p1 p2 p3 q0 q1 q2 q3 hs
    all_goals (go_wp2; go_ret; refine ⟨rfl, ?_⟩; (repeat (first | with_reducible exact Below.rf _ | with_reducible exact World.below_ext _ _ | with_reducible refine Below.ex ?_ _ | with_reducible refine Below.al ?_ _ | with_reducible refine Below.setCell ?_ (by simp) _ | with_reducible refine Below.drew ?_)))
/-- The sort of HeapOrdered. -/
def SE (blk n c Bs : Nat) (th : Value) (w0 : World) : Srt Ent :=
  { enc := encE, k := 4, blk := blk, off := 0, n := n, lt := ltE, g := 23, lb := #[.pointer (some ⟨Bs, 0, none⟩)], sf := 101, sb := #[.slice (some ⟨blk, 0, none⟩) n c, th], w0 := w0 }
theorem ieE : ∃ ie, Try.prog.info? 62 = some ie ∧ ie.size = 4 ∧ ie.hasPointers = false ∧ ie.bytes = 32 := by
  have h : (Try.prog.info? 62).map (fun i => (i.size, i.hasPointers, i.bytes)) = some (4, false, 32) := by kernel_rfl
  cases e : Try.prog.info? 62 with
  | none => rw [e] at h; cases h
  | some i =>
    rw [e] at h
    simp only [Option.map_some, Option.some.injEq, Prod.mk.injEq] at h
    exact ⟨i, rfl, h.1, h.2.1, h.2.2⟩
theorem itE : ∃ i, Try.prog.info? 29 = some i ∧ i.desc = .slice 62 := by
  have h : (Try.prog.info? 29).map (fun i => i.desc) = some (.slice 62) := by kernel_rfl
  cases e : Try.prog.info? 29 with
  | none => rw [e] at h; cases h
  | some i =>
    rw [e] at h
    simp only [Option.map_some, Option.some.injEq] at h
    exact ⟨i, rfl, h⟩
theorem kE (ie : TypeInfo) (a : ie.hasPointers = false) (b : ie.bytes = 32) (n : Nat) : Lib.swapperK n ie 25 = if n = 0 then 1 else if n = 1 then 2 else 9 := by
  by_cases h0 : n = 0
  · subst h0; simp [Lib.swapperK]
  · by_cases h1 : n = 1
    · subst h1; simp [Lib.swapperK]
    · simp [Lib.swapperK, a, b, h0, h1]
theorem fE (n : Nat) : Try.prog.funcs.findIdx? (·.name == "internal/reflectlite" ++ ".Swapper$" ++ toString (if n = 0 then 1 else if n = 1 then 2 else 9)) = some (if n = 0 then 93 else if n = 1 then 94 else 101) := by
  split
  · kernel_rfl
  · split
    · kernel_rfl
    · kernel_rfl
theorem holdsE {w : World} {blk : Nat} {d : Array Ent} (h : Sort.HoldsK encE 4 w blk 0 d) {i : Nat} (hi : i < d.size) :
    w.cell? ⟨blk, i * 4, none⟩ = some (.int .i64 (d[i]!.1)) ∧ w.cell? ⟨blk, i * 4 + 1, none⟩ = some (.int .i64 (d[i]!.2.1)) ∧ w.cell? ⟨blk, i * 4 + 2, none⟩ = some (.int .i64 (d[i]!.2.2.1)) ∧ w.cell? ⟨blk, i * 4 + 3, none⟩ = some (.int .i64 (d[i]!.2.2.2)) := by
  have h0 := (h.cell (i := i) (c := 0) hi (by omega)).1
  have h1 := (h.cell (i := i) (c := 1) hi (by omega)).1
  have h2 := (h.cell (i := i) (c := 2) hi (by omega)).1
  have h3 := (h.cell (i := i) (c := 3) hi (by omega)).1
  rw [Nat.zero_add] at h0 h1 h2 h3
  exact ⟨h0, h1, h2, h3⟩
theorem okE (blk n c Bs : Nat) (w0 : World) (hblk : blk < w0.heap.size) (hB1 : Bs < w0.heap.size) (hB2 : Bs ≠ blk) (hs : w0.cell? ⟨Bs, 0, none⟩ = some (.slice (some ⟨blk, 0, none⟩) n c)) (hn : n ≤ 1000000000000) : (SE blk n c Bs (typeHandle Try.prog 62) w0).Ok where
  hk := fun _ => rfl
  less := fun W d h i j hi hj => by
    have hz : d.size = n := h.sz
    have hi' : i < n := hi
    have hj' : j < n := hj
    obtain ⟨p0, p1, p2, p3⟩ := holdsE (show Sort.HoldsK encE 4 W blk 0 d from h.h) (i := i) (by omega)
    obtain ⟨q0, q1, q2, q3⟩ := holdsE (show Sort.HoldsK encE 4 W blk 0 d from h.h) (i := j) (by omega)
    have hkb : KeptBut blk w0 W := h.kb
    refine (less23 blk Bs n c i j _ _ _ _ _ _ _ _ W ((hkb.cell 0 hB1 hB2).trans hs) (Nat.lt_of_lt_of_le hB1 hkb.size) (Nat.lt_of_lt_of_le hblk hkb.size) hi' hj' hn p0 p1 p2 p3 q0 q1 q2 q3).mono ?_
    rintro e w' ⟨rfl, hb⟩
    refine ⟨rfl, ⟨fun t ht => ?_, h.kb.below hb h.kb.size, h.sz⟩, KeptBut.of_below hb (Nat.le_refl _)⟩
    have hl : blk < W.heap.size := Nat.lt_of_lt_of_le hblk hkb.size
    have := h.h t ht
    exact ⟨(World.cell?_of_block (hb.block _ hl)).trans this.1, (World.frozen?_of_block (hb.block _ hl)).trans this.2⟩
  eg := enters_of Try.func23 (by kernel_rfl) rfl
  swap := by
    obtain ⟨ie, h0, h1, -, -⟩ := ieE
    exact swapSwapsK_of_literal (P := Try.prog) false 101 (fun args W => run_callFunc_extern Try.func101 (by kernel_rfl) (by kernel_rfl) (by kernel_rfl) (e := Extern.ReflectliteSwapper.swap false) (by kernel_rfl) args W) 62 ie h0 encE 4 (fun _ => rfl) h1 (fun _ => by kernel_rfl)
      (fun x v hv => by simp [encE] at hv; rcases hv with rfl | rfl | rfl | rfl <;> rfl) blk 0 n c
  blt := hblk
  nb := by show n < _; omega
def slPost (blk : Nat) (d : Array Ent) (w : World) : World → Prop := fun w' => ∃ d', Sort.PermIn 0 d.size d d' ∧ Sort.SortedIn ltE 0 d.size d' ∧ Sort.HoldsK encE 4 w' blk 0 d' ∧ KeptBut blk w w'
theorem slice22 (blk c Bs : Nat) (d : Array Ent) (w : World) (h2 : 2 ≤ d.size) (hn : d.size ≤ 1000000000000) (hH : Sort.HoldsK encE 4 w blk 0 d) (hblk : blk < w.heap.size) (hB1 : Bs < w.heap.size) (hB2 : Bs ≠ blk)
    (hs : w.cell? ⟨Bs, 0, none⟩ = some (.slice (some ⟨blk, 0, none⟩) d.size c)) :
    Calls Try.prog 22 #[.iface 29 (.slice (some ⟨blk, 0, none⟩) d.size c), .func (.func 23) #[] #[.pointer (some ⟨Bs, 0, none⟩)]] w fun e w' => e = .returned (.tuple #[]) ∧ slPost blk d w w' := by
  obtain ⟨ie, h0, h1, hp, hb⟩ := ieE
  obtain ⟨it, g0, g1⟩ := itE
  have hK := kE ie hp hb d.size
  rw [if_neg (by omega), if_neg (by omega)] at hK
  have hF := fE d.size
  rw [if_neg (by omega), if_neg (by omega), if_neg (by omega), if_neg (by omega)] at hF
  refine Any.sort_Slice_of_pdq Try.laysGg6 29 62 it ie g0 g1 (by kernel_rfl) h0 25 (fun _ => by kernel_rfl) _ d.size c (by omega) 101 (by rw [hK]; exact hF) (.func 23) #[] #[.pointer (some ⟨Bs, 0, none⟩)] w _ ?_
  have hB : sliceBound Try.prog 62 ie 25 (some ⟨blk, 0, none⟩) d.size c = #[.slice (some ⟨blk, 0, none⟩) d.size c, typeHandle Try.prog 62] := by
    unfold sliceBound; rw [if_neg (by rw [hK]; omega)]
  rw [hB]
  obtain ⟨w1, hw1⟩ : ∃ w1, sliceWorld Try.prog Try.laysGg6_ren 29 (some ⟨blk, 0, none⟩) d.size c w = w1 := ⟨_, rfl⟩
  have hb1 : Below w.heap.size w w1 := by
    rw [← hw1]; unfold sliceWorld
    exact ((Below.rf _).alloc (Nat.le_refl _) _).alloc (by simp) _
  rw [hw1]
  have kb : KeptBut blk w w1 := KeptBut.of_below hb1 (Nat.le_refl _)
  have hl : blk < w1.heap.size := Nat.lt_of_lt_of_le hblk kb.size
  have O := okE blk d.size c Bs w1 hl (Nat.lt_of_lt_of_le hB1 kb.size) hB2 ((kb.cell 0 hB1 hB2).trans hs) hn
  have hst : (SE blk d.size c Bs (typeHandle Try.prog 62) w1).St w1 d := ⟨fun t ht => by
    have := hH t ht
    exact ⟨(World.cell?_of_block (hb1.block _ hblk)).trans this.1, (World.frozen?_of_block (hb1.block _ hblk)).trans this.2⟩, KeptBut.refl _ _, rfl⟩
  have hlim : Lib.bitLen d.size < 4611686018427387904 := Nat.lt_of_le_of_lt (Lib.bitLen_le d.size 62 (by omega) (by omega)) (by omega)
  refine (pdq_any O swoE (d.size + 1) 0 d.size (Lib.bitLen d.size) d w1 (by omega) hst (Nat.zero_le _) (Nat.le_refl _) hlim (Or.inl rfl)).mono ?_
  rintro e w' ⟨rfl, hst', hkb⟩
  have h := Sort.pdq_sorts ltE swoE d 0 d.size (Lib.bitLen d.size) true true (Nat.zero_le _) (Nat.le_refl _) (Or.inl rfl)
  exact ⟨rfl, _, h.1, h.2, hst'.h, kb.trans hkb⟩
theorem slice22_tiny (p : Option Addr) (n c Bs : Nat) (w : World) (h1 : n ≤ 1) :
    Calls Try.prog 22 #[.iface 29 (.slice p n c), .func (.func 23) #[] #[.pointer (some ⟨Bs, 0, none⟩)]] w fun e w' => e = .returned (.tuple #[]) ∧ Below w.heap.size w w' := by
  obtain ⟨ie, h0, h1', hp, hb⟩ := ieE
  obtain ⟨it, g0, g1⟩ := itE
  refine (Any.sort_Slice_tiny Try.laysGg6 29 62 it ie g0 g1 (by kernel_rfl) h0 25 (fun _ => by kernel_rfl) p n c h1 _ (by rw [kE ie hp hb n]; exact fE n) (.func 23) #[] #[.pointer (some ⟨Bs, 0, none⟩)] w).mono ?_
  rintro e w' ⟨rfl, os, rfl⟩
  exact ⟨rfl, ⟨rfl, rfl, rfl, by show w.heap.size ≤ (w.heap ++ os).size; rw [Array.size_append]; omega, fun _ hj => Sort.heap_grow_old w os hj⟩⟩
end Go.Proofs.Qxb6500717a
