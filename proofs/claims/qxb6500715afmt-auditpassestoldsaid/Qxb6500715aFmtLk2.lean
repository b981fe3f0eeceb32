/-
  link, the second half: the edges' numbers. What is kept.
-/
import Derived.Test.Qxb6500715aFmtEntry
namespace Go.Proofs.Qxb6500715aFmt
open Go.RowKit
set_option linter.unusedSimpArgs false
set_option linter.unusedVariables false

structure Lk2 (w wr : World) (F : FP) (eb : Nat) (Y C E : Array Value) (v : Value) (m : Nat) (xs : List Value) : Prop where
  fw : FlN w F
  low : ∀ j, j ≤ 14 → wr.cell? ⟨F.fb, j, none⟩ = w.cell? ⟨F.fb, j, none⟩
  fz : ∀ j, wr.frozen? ⟨F.fb, j, none⟩ = false
  k15 : wr.cell? ⟨F.fb, 15, none⟩ = some (.slice (some ⟨w.heap.size, 0, none⟩) (F.N + 1) (F.N + 1))
  k16 : wr.cell? ⟨F.fb, 16, none⟩ = some (.slice (some ⟨w.heap.size + 1, 0, none⟩) (F.st F.N) (4 * F.N))
  k17 : wr.cell? ⟨F.fb, 17, none⟩ = some (.slice (some ⟨eb, 0, none⟩) (F.st F.N) (F.st F.N))
  k18 : wr.cell? ⟨F.fb, 18, none⟩ = some v
  rest : ∀ j, 19 ≤ j → wr.cell? ⟨F.fb, j, none⟩ = w.cell? ⟨F.fb, j, none⟩
  hY : wr.heap[w.heap.size]? = some (.cells Y 3)
  yv : ∀ j, j < F.N + 1 → Y[j]? = some (.int .i64 (F.st j))
  hC : wr.heap[w.heap.size + 1]? = some (.cells C 50)
  cv : ∀ (j x : Nat), (F.flat F.N)[j]? = some x → C[j]? = some (.int .i64 (x))
  hE : wr.heap[eb]? = some (.cells E 68)
  es : E.size = F.st F.N
  ev : ∀ j, j < F.st F.N → ∃ x : Int, E[j]? = some (.int .i64 (x))
  heb : w.heap.size + 1 < eb
  own : wr.ownsRow (eb + 1) 67 2 v m xs
  kept : KeptBut F.fb w wr

section
variable {w wr : World} {F : FP} {eb : Nat} {Y C E : Array Value} {v : Value} {m : Nat} {xs : List Value}

theorem Lk2.lt (h : Lk2 w wr F eb Y C E v m xs) : eb < wr.heap.size := (Array.getElem?_eq_some_iff.1 h.hE).1
theorem Lk2.fl (h : Lk2 w wr F eb Y C E v m xs) : FlN wr F := h.fw.of h.kept h.low (fun j => (h.fz j).trans (h.fw.hdr.fz j).symm)
theorem Lk2.lnk (h : Lk2 w wr F eb Y C E v m xs) : Lnk wr F w.heap.size (w.heap.size + 1) := by
  have hlt := h.lt
  have heb := h.heb
  exact ⟨h.k15, h.k16, h.fl.hdr.hfb, ⟨by omega, by omega⟩, fun j hj => by rw [cell_of_row wr _ j Y 3 (0, 0) h.hY]; exact h.yv j (by omega), fun j x hx => by rw [cell_of_row wr _ j C 50 (0, 0) h.hC]; exact h.cv j x hx⟩

theorem Lk2.ex (h : Lk2 w wr F eb Y C E v m xs) (z : World) : Lk2 w (wr.ext z) F eb Y C E v m xs := by
  have hf : F.fb < wr.heap.size := Nat.lt_of_lt_of_le h.fw.hdr.hfb h.kept.size
  have hc : ∀ j, (wr.ext z).cell? ⟨F.fb, j, none⟩ = wr.cell? ⟨F.fb, j, none⟩ := fun j => World.cell?_ext_old _ _ _ hf
  have hb : ∀ k, k < wr.heap.size → (wr.ext z).heap[k]? = wr.heap[k]? := fun k hk => World.block_ext _ _ _ hk
  have hlt := h.lt
  have heb := h.heb
  exact ⟨h.fw, fun j hj => (hc j).trans (h.low j hj), fun j => (World.frozen?_ext_old _ _ _ hf).trans (h.fz j), (hc 15).trans h.k15, (hc 16).trans h.k16, (hc 17).trans h.k17, (hc 18).trans h.k18, fun j hj => (hc j).trans (h.rest j hj),
    (hb _ (by omega)).trans h.hY, h.yv, (hb _ (by omega)).trans h.hC, h.cv, (hb _ hlt).trans h.hE, h.es, h.ev, heb, ownsRow_ext h.own, h.kept.ex z⟩

/-- One edge's number is written. -/
theorem Lk2.setE (h : Lk2 w wr F eb Y C E v m xs) (i : Nat) (x : Int) (hi : i < F.st F.N) : Lk2 w (wr.setCell ⟨eb, i, none⟩ (.int .i64 (x))) F eb Y C (E.setIfInBounds i (.int .i64 (x))) v m xs := by
  have hf := h.fw.hdr.hfb
  have heb := h.heb
  have hc : ∀ j, (wr.setCell ⟨eb, i, none⟩ (.int .i64 (x))).cell? ⟨F.fb, j, none⟩ = wr.cell? ⟨F.fb, j, none⟩ := fun j => fld_far _ _ _ _ _ _ (by omega)
  refine ⟨h.fw, fun j hj => (hc j).trans (h.low j hj), fun j => by simpa using h.fz j, (hc 15).trans h.k15, (hc 16).trans h.k16, (hc 17).trans h.k17, (hc 18).trans h.k18, fun j hj => (hc j).trans (h.rest j hj),
    ?_, h.yv, ?_, h.cv, heap_setCell_same wr _ i E 68 _ h.hE, by simpa using h.es, fun j hj => ?_, heb, own_set h.own _ _ _ (by omega), h.kept.set (Or.inr (by simp; omega)) _⟩
  · rw [Below.heap_setCell _ _ _ _ (by simp; omega)]; exact h.hY
  · rw [Below.heap_setCell _ _ _ _ (by simp; omega)]; exact h.hC
  · rw [Array.getElem?_setIfInBounds]
    by_cases hj2 : i = j
    · rw [if_pos hj2, if_pos (by rw [h.es]; exact hi)]; exact ⟨x, rfl⟩
    · rw [if_neg hj2]; exact h.ev j hj

/-- One edge is entered. -/
theorem Lk2.push (h : Lk2 w wr F eb Y C E v m xs) {w3 : World} {v3 : Value} {m3 : Nat} {xs3 : List Value} (hB : Below (eb + 1) wr w3) (ho : w3.ownsRow (eb + 1) 67 2 v3 m3 xs3) :
    Lk2 w (w3.setCell ⟨F.fb, 18, none⟩ v3) F eb Y C E v3 m3 xs3 := by
  have hf := h.fw.hdr.hfb
  have heb := h.heb
  have hc : ∀ j, j ≠ 18 → (w3.setCell ⟨F.fb, 18, none⟩ v3).cell? ⟨F.fb, j, none⟩ = wr.cell? ⟨F.fb, j, none⟩ := fun j hj => (fld_ne _ _ _ _ _ (Ne.symm hj)).trans (World.cell?_of_block (hB.block F.fb (by omega)))
  have hb : ∀ k, k < eb + 1 → k ≠ F.fb → (w3.setCell ⟨F.fb, 18, none⟩ v3).heap[k]? = wr.heap[k]? := fun k hk hne => by
    rw [Below.heap_setCell _ _ _ _ (by simpa using hne)]; exact hB.block k hk
  refine ⟨h.fw, fun j hj => (hc j (by omega)).trans (h.low j hj), fun j => ?_, (hc 15 (by omega)).trans h.k15, (hc 16 (by omega)).trans h.k16, (hc 17 (by omega)).trans h.k17, ?_, fun j hj => (hc j (by omega)).trans (h.rest j hj),
    (hb _ (by omega) (by omega)).trans h.hY, h.yv, (hb _ (by omega) (by omega)).trans h.hC, h.cv, (hb _ (by omega) (by omega)).trans h.hE, h.es, h.ev, heb, own_set ho _ _ _ (by omega), (h.kept.below hB (by omega)).set (Or.inl rfl) v3⟩
  · have : w3.frozen? ⟨F.fb, j, none⟩ = wr.frozen? ⟨F.fb, j, none⟩ := World.frozen?_of_block (hB.block F.fb (by omega))
    simpa [h.fz j] using this
  · exact World.cell?_setCell_same _ _ _ (u := v) ((World.cell?_of_block (hB.block F.fb (by omega))).trans h.k18)

/-- The beginning. -/
theorem LnkAt.lk2 {Y C : Array Value} {E0 R0 : Array Value} {cap : Nat} {v17 v18 : Value} (h : LnkAt w wr F (F.N + 1) (F.flat F.N) Y C) (h17 : w.cell? ⟨F.fb, 17, none⟩ = some v17) (h18 : w.cell? ⟨F.fb, 18, none⟩ = some v18)
    (hE0 : E0 = madeCells #[.int .i64 (0)] (F.st F.N)) (hR0 : R0.size = cap * 2) (hcap : cap ≤ 10000) :
    Lk2 w ((((wr.setCell ⟨F.fb, 17, none⟩ (.slice (some ⟨wr.heap.size, 0, none⟩) (F.st F.N) (F.st F.N))).setCell ⟨F.fb, 18, none⟩ (.slice (some ⟨wr.heap.size + 1, 0, none⟩) 0 cap)).alloc (.cells E0 68)).alloc (.cells R0 67)) F wr.heap.size Y C E0 (.slice (some ⟨wr.heap.size + 1, 0, none⟩) 0 cap) 0 [] := by
  have hf := h.fw.hdr.hfb
  have hs := h.kept.size
  have hlt := h.lt
  have hc : ∀ j, j ≠ 17 → j ≠ 18 → ((((wr.setCell ⟨F.fb, 17, none⟩ (.slice (some ⟨wr.heap.size, 0, none⟩) (F.st F.N) (F.st F.N))).setCell ⟨F.fb, 18, none⟩ (.slice (some ⟨wr.heap.size + 1, 0, none⟩) 0 cap)).alloc (.cells E0 68)).alloc (.cells R0 67)).cell? ⟨F.fb, j, none⟩ = wr.cell? ⟨F.fb, j, none⟩ := fun j h1 h2 => by
    rw [World.cell?_alloc_old _ _ _ (by simp; omega), World.cell?_alloc_old _ _ _ (by simp; omega), fld_ne _ _ _ _ _ (Ne.symm h2), fld_ne _ _ _ _ _ (Ne.symm h1)]
  have hb : ∀ k, k < wr.heap.size → k ≠ F.fb → ((((wr.setCell ⟨F.fb, 17, none⟩ (.slice (some ⟨wr.heap.size, 0, none⟩) (F.st F.N) (F.st F.N))).setCell ⟨F.fb, 18, none⟩ (.slice (some ⟨wr.heap.size + 1, 0, none⟩) 0 cap)).alloc (.cells E0 68)).alloc (.cells R0 67)).heap[k]? = wr.heap[k]? := fun k h1 h2 => by
    rw [Below.heap_alloc _ _ _ (by simp; omega), Below.heap_alloc _ _ _ (by simp; omega), Below.heap_setCell _ _ _ _ (by simpa using h2), Below.heap_setCell _ _ _ _ (by simpa using h2)]
  have hes : E0.size = F.st F.N := by rw [hE0]; exact size_madeCells _ _
  refine ⟨h.fw, fun j hj => (hc j (by omega) (by omega)).trans (h.low j hj), fun j => ?_, (hc 15 (by omega) (by omega)).trans h.k15, (hc 16 (by omega) (by omega)).trans h.k16, ?_, ?_, fun j hj => (hc j (by omega) (by omega)).trans (h.rest j (by omega)),
    (hb _ (by omega) (by omega)).trans h.hY, fun j hj => h.yv j hj, (hb _ (by omega) (by omega)).trans h.hC, h.cv, ?_, hes, fun j hj => ⟨0, ?_⟩, by omega, ?_, ((((h.kept.set (a := ⟨F.fb, 17, none⟩) (Or.inl rfl) _).set (a := ⟨F.fb, 18, none⟩) (Or.inl rfl) _).al _).al _)⟩
  · rw [World.frozen?_alloc_old _ _ _ (by simp; omega), World.frozen?_alloc_old _ _ _ (by simp; omega)]; simpa using h.fz j
  · rw [World.cell?_alloc_old _ _ _ (by simp; omega), World.cell?_alloc_old _ _ _ (by simp; omega), fld_ne _ _ _ _ _ (by omega)]; exact World.cell?_setCell_same _ _ _ ((h.rest 17 (by omega)).trans h17)
  · rw [World.cell?_alloc_old _ _ _ (by simp; omega), World.cell?_alloc_old _ _ _ (by simp; omega)]; exact World.cell?_setCell_same _ _ _ (u := v18) (by rw [fld_ne _ _ _ _ _ (by omega)]; exact (h.rest 18 (by omega)).trans h18)
  · rw [Below.heap_alloc _ _ _ (by simp)]
    have := (MapKept.heap_alloc ((wr.setCell ⟨F.fb, 17, none⟩ (.slice (some ⟨wr.heap.size, 0, none⟩) (F.st F.N) (F.st F.N))).setCell ⟨F.fb, 18, none⟩ (.slice (some ⟨wr.heap.size + 1, 0, none⟩) 0 cap)) (.cells E0 68)).1
    simpa using this
  · rw [hE0]
    simp [madeCells, hj, Nat.mod_one]
  · exact owns_made R0 cap _ (by simp) (by simp) (by unfold maxLen; omega) hR0
end
end Go.Proofs.Qxb6500715aFmt
