/-
  A world in which only one block of the old ones may have been written.
-/
import Derived.Test.Qxb6500717aGreatOwn
namespace Go
open Go.RowKit

structure KeptBut (b : Nat) (w w' : World) : Prop where
  os : w'.os = w.os
  tape : w'.tape = w.tape
  output : w'.output = w.output
  size : w.heap.size ≤ w'.heap.size
  block : ∀ k, k < w.heap.size → k ≠ b → w'.heap[k]? = w.heap[k]?

section
variable {b B : Nat} {w w1 w2 : World}
theorem KeptBut.refl (b : Nat) (w : World) : KeptBut b w w := ⟨rfl, rfl, rfl, Nat.le_refl _, fun _ _ _ => rfl⟩
theorem KeptBut.trans (h : KeptBut b w w1) (k : KeptBut b w1 w2) : KeptBut b w w2 :=
  ⟨k.os.trans h.os, k.tape.trans h.tape, k.output.trans h.output, Nat.le_trans h.size k.size, fun i hi hb => (k.block i (Nat.lt_of_lt_of_le hi h.size) hb).trans (h.block i hi hb)⟩
theorem KeptBut.of_below (h : Below B w w1) (hB : w.heap.size ≤ B) : KeptBut b w w1 := ⟨h.os, h.tape, h.output, h.size, fun k hk _ => h.block k (by omega)⟩
theorem KeptBut.below (h : KeptBut b w w1) (k : Below B w1 w2) (hB : w.heap.size ≤ B) : KeptBut b w w2 :=
  ⟨k.os.trans h.os, k.tape.trans h.tape, k.output.trans h.output, Nat.le_trans h.size k.size, fun i hi hb => (k.block i (by omega)).trans (h.block i hi hb)⟩
theorem KeptBut.al (h : KeptBut b w w1) (o : Obj) : KeptBut b w (w1.alloc o) :=
  h.below (B := w1.heap.size) ((Below.rf w1).al o) h.size
theorem KeptBut.ex (h : KeptBut b w w1) (z : World) : KeptBut b w (w1.ext z) :=
  h.below (B := w1.heap.size) (World.below_ext w1 z) h.size
theorem KeptBut.set (h : KeptBut b w w1) {a : Addr} (ha : a.block = b ∨ w.heap.size ≤ a.block) (v : Value) : KeptBut b w (w1.setCell a v) :=
  ⟨h.os, h.tape, h.output, by simpa [World.setCell] using h.size, fun k hk hb => (Below.heap_setCell _ _ _ _ (by omega)).trans (h.block k hk hb)⟩
theorem KeptBut.cell (h : KeptBut b w w1) {k : Nat} (o : Nat) (hk : k < w.heap.size) (hb : k ≠ b) : w1.cell? ⟨k, o, none⟩ = w.cell? ⟨k, o, none⟩ :=
  World.cell?_of_block (h.block k hk hb)
theorem KeptBut.to_below (h : KeptBut b w w1) (hb : B ≤ b) (hB : B ≤ w.heap.size) : Below B w w1 := ⟨h.os, h.tape, h.output, h.size, fun k hk => h.block k (by omega) (by omega)⟩
end
end Go
