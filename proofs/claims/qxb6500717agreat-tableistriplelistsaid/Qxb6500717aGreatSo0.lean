/-
  Sorting with a 'less' that may lay blocks: what is held while the sort runs.
-/
import Derived.Test.Qxb6500717aGreatProg
import Derived.Test.Qxb6500717aGreatKept
import Derived.Test.Qxb6500717aGreatPad
import Derived.Shelf.SlSortFuncK.WholeK
namespace Go.Proofs.Qxb6500717aGreat
open Go.RowKit
set_option linter.unusedSimpArgs false
set_option linter.unusedVariables false
set_option linter.unusedSectionVars false
/-- A sort: the row (block, offset, cells an element, length), the order, the two functions, the world at its beginning. -/
structure Srt (α : Type) where
  enc : α → List Value
  k : Nat
  blk : Nat
  off : Nat
  n : Nat
  lt : α → α → Bool
  g : Nat
  lb : Array Value
  sf : Nat
  sb : Array Value
  w0 : World
section
variable {α : Type} [Inhabited α] {S : Srt α} {W W' : World} {d : Array α}
/-- The row holds d; no other old block has been written. -/
structure Srt.St (S : Srt α) (W : World) (d : Array α) : Prop where
  h : Sort.HoldsK S.enc S.k W S.blk S.off d
  kb : KeptBut S.blk S.w0 W
  sz : d.size = S.n
/-- What is asked of the two functions. -/
structure Srt.Ok (S : Srt α) : Prop where
  hk : ∀ x, (S.enc x).length = S.k
  less : ∀ (W : World) (d : Array α), S.St W d → ∀ i j : Nat, i < S.n → j < S.n → Calls Tryz.prog S.g (#[.int .i64 (i), .int .i64 (j)] ++ S.lb) W fun e w' => e = .returned (.bool (S.lt d[i]! d[j]!)) ∧ S.St w' d ∧ KeptBut S.blk W w'
  eg : ∀ args w, (callFunc S.g args).run Tryz.prog w = .ok (.enter S.g args) w
  swap : SwapSwapsK Tryz.prog S.sf S.sb S.enc S.k S.blk S.off S.n
  blt : S.blk < S.w0.heap.size
  nb : S.n < 4611686018427387904
theorem Srt.St.lt (h : S.St W d) (O : S.Ok) : S.blk < W.heap.size := Nat.lt_of_lt_of_le O.blt h.kb.size
/-- Only other blocks are new. -/
theorem Srt.St.below (h : S.St W d) (O : S.Ok) (hb : Below W.heap.size W W') : S.St W' d := by
  have hl := h.lt O
  refine ⟨fun j hj => ?_, h.kb.below hb h.kb.size, h.sz⟩
  have := h.h j hj
  exact ⟨(World.cell?_of_block (hb.block _ hl)).trans this.1, (World.frozen?_of_block (hb.block _ hl)).trans this.2⟩
theorem Srt.St.al (h : S.St W d) (O : S.Ok) (o : Obj) : S.St (W.alloc o) d := h.below O ((Below.rf W).al o)
/-- A swap. -/
theorem Srt.St.swp (h : S.St W d) (O : S.Ok) {i j : Nat} (hi : i < S.n) (hj : j < S.n) :
    ∃ W', (callFunc S.sf (#[.int .i64 (i), .int .i64 (j)] ++ S.sb)).run Tryz.prog W = .ok (.value (.tuple #[])) W' ∧ S.St W' (Sort.swp d i j) ∧ KeptBut S.blk W W' := by
  have hr := O.swap W d h.h h.sz i j hi hj
  have hs := Sort.putRowK_swp S.enc S.k O.hk W S.blk S.off d i j (by rw [h.sz]; exact hi) (by rw [h.sz]; exact hj)
  rw [Sort.putRowK_self S.enc S.k W S.blk S.off d h.h] at hs
  have hkb : KeptBut S.blk W ((W.setCells S.blk (S.off + i * S.k) (S.enc d[j]!)).setCells S.blk (S.off + j * S.k) (S.enc d[i]!)) := (setCells_kept _ _ _ _).trans (setCells_kept _ _ _ _)
  refine ⟨_, hr, ⟨?_, h.kb.trans hkb, by rw [Sort.size_swp]; exact h.sz⟩, hkb⟩
  rw [hs]
  exact Sort.holdsK_putRowK S.enc S.k W S.blk S.off d _ h.h (Sort.size_swp d i j)
theorem Srt.St.swpI (h : S.St W d) (O : S.Ok) (x y : Int) (i j : Nat) (hx : x = i) (hy : y = j) (hi : i < S.n) (hj : j < S.n) :
    ∃ W', (callFunc S.sf (#[.int .i64 (x), .int .i64 (y)] ++ S.sb)).run Tryz.prog W = .ok (.value (.tuple #[])) W' ∧ S.St W' (Sort.swp d i j) ∧ KeptBut S.blk W W' := by
  subst hx hy; exact h.swp O hi hj
theorem Srt.Ok.lessI (O : S.Ok) (W : World) (d : Array α) (h : S.St W d) (x y : Int) (i j : Nat) (b : Bool) (hx : x = i) (hy : y = j) (hi : i < S.n) (hj : j < S.n) (hb : S.lt d[i]! d[j]! = b) :
    Calls Tryz.prog S.g (#[.int .i64 (x), .int .i64 (y)] ++ S.lb) W fun e w' => e = .returned (.bool b) ∧ S.St w' d ∧ KeptBut S.blk W w' := by
  subst hx hy hb; exact O.less W d h i j hi hj
/-- The two functions as one value. -/
def Srt.dv (S : Srt α) : Value := .agg #[.func (.func S.g) #[] S.lb, .func (.func S.sf) #[] S.sb]
/-- .. in a block of their own. -/
structure Srt.Dat (S : Srt α) (W : World) (B : Nat) : Prop where
  c0 : W.cell? ⟨B, 0, none⟩ = some (.func (.func S.g) #[] S.lb)
  c1 : W.cell? ⟨B, 1, none⟩ = some (.func (.func S.sf) #[] S.sb)
  lt : B < W.heap.size
  ne : B ≠ S.blk
theorem Srt.Dat.kept {B : Nat} (h : S.Dat W B) (hk : KeptBut S.blk W W') : S.Dat W' B :=
  ⟨(World.cell?_of_block (hk.block _ h.lt h.ne)).trans h.c0, (World.cell?_of_block (hk.block _ h.lt h.ne)).trans h.c1, Nat.lt_of_lt_of_le h.lt hk.size, h.ne⟩
theorem Srt.Dat.new (h : S.St W d) (O : S.Ok) (t : TypeId) : S.Dat (W.alloc (.cells #[.func (.func S.g) #[] S.lb, .func (.func S.sf) #[] S.sb] t)) W.heap.size :=
  ⟨by simp, by simp, by simp, fun e => by have := h.lt O; omega⟩
end
end Go.Proofs.Qxb6500717aGreat
