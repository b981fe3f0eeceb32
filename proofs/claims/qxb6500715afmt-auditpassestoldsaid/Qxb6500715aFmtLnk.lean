/-
  link: the neighbour lists (the first half).
-/
import Derived.Test.Qxb6500715aFmtAdj
namespace Go.Proofs.Qxb6500715aFmt
open Go.RowKit
set_option linter.unusedSimpArgs false
set_option linter.unusedVariables false

/-- Where the k-th move leads from a cell. -/
def FP.to (F : FP) (c k : Nat) : Int × Int := sh ((F.pl c / F.W : Nat) : Int) ((F.pl c % F.W : Nat) : Int) ((k : Int) + 1)
/-- Can it be made? -/
def FP.can (F : FP) (c k : Nat) : Bool := F.pas ((F.pl c / F.W : Nat) : Int) ((F.pl c % F.W : Nat) : Int) (F.to c k).1 (F.to c k).2
/-- The neighbours by the first k moves. -/
def FP.adjTo (F : FP) (c : Nat) : Nat → List Nat
  | 0 => []
  | k + 1 => F.adjTo c k ++ (if F.can c k then [F.id ((F.to c k).1.toNat * F.W + (F.to c k).2.toNat)] else [])
def FP.adj (F : FP) (c : Nat) : List Nat := F.adjTo c 4
def FP.flat (F : FP) : Nat → List Nat
  | 0 => []
  | c + 1 => F.flat c ++ F.adj c
def FP.st (F : FP) (c : Nat) : Nat := (F.flat c).length

theorem pas_in (F : FP) {r q r' q' : Int} (h : F.pas r q r' q' = true) : (0 ≤ r' ∧ r' < (F.S : Int) + 4 ∧ 0 ≤ q' ∧ q' < (F.W : Int)) ∧ drv (F.kd (r'.toNat * F.W + q'.toNat)) = true := by
  unfold FP.pas at h
  simp only [Bool.and_eq_true] at h
  have h2 := h.1.2
  unfold FP.kAt at h2
  split at h2
  · rename_i hin; exact ⟨hin, h2⟩
  · simp [drv] at h2
theorem FP.adjTo_len (F : FP) (c k : Nat) : (F.adjTo c k).length ≤ k := by
  induction k with
  | zero => simp [FP.adjTo]
  | succ k ih =>
    simp only [FP.adjTo, List.length_append]
    split <;> simp <;> omega
theorem FP.flat_len (F : FP) (c : Nat) : (F.flat c).length ≤ 4 * c := by
  induction c with
  | zero => simp [FP.flat]
  | succ c ih =>
    simp only [FP.flat, List.length_append]
    have := F.adjTo_len c 4
    simp only [FP.adj]; omega

theorem FP.flat_get (F : FP) (a j m : Nat) (ha : a < m) (hj : j < (F.adj a).length) : (F.flat m)[F.st a + j]? = (F.adj a)[j]? := by
  induction m with
  | zero => omega
  | succ m ih =>
    simp only [FP.flat]
    by_cases h : a = m
    · subst h
      rw [List.getElem?_append_right (by simp [FP.st]), FP.st]
      congr 1; omega
    · have h1 := ih (by omega)
      have h2 := List.getElem?_eq_getElem hj
      rw [h2] at h1
      have h3 := (List.getElem?_eq_some_iff.1 h1).1
      rw [List.getElem?_append_left h3, h1, h2]
theorem FP.st_succ (F : FP) (a : Nat) : F.st (a + 1) = F.st a + (F.adj a).length := by simp [FP.st, FP.flat]
theorem FP.st_mono (F : FP) {a b : Nat} (h : a ≤ b) : F.st a ≤ F.st b := by
  induction b with
  | zero => obtain rfl : a = 0 := by omega
            exact Nat.le_refl _
  | succ b ih =>
    by_cases hb : a = b + 1
    · subst hb; exact Nat.le_refl _
    · have := ih (by omega)
      rw [FP.st_succ]; omega

/-- The directions' table. -/
structure Dirs (w : World) : Prop where
  lt : 1 < w.heap.size
  d0 : w.cell? ⟨1, 0, none⟩ = some (.int .i64 (1))
  d1 : w.cell? ⟨1, 1, none⟩ = some (.int .i64 (2))
  d2 : w.cell? ⟨1, 2, none⟩ = some (.int .i64 (3))
  d3 : w.cell? ⟨1, 3, none⟩ = some (.int .i64 (4))

theorem Dirs.kept {w w' : World} {b : Nat} (h : Dirs w) (hk : KeptBut b w w') (hb : b ≠ 1) : Dirs w' :=
  ⟨Nat.lt_of_lt_of_le h.lt hk.size, (hk.cell 0 h.lt (Ne.symm hb)).trans h.d0, (hk.cell 1 h.lt (Ne.symm hb)).trans h.d1, (hk.cell 2 h.lt (Ne.symm hb)).trans h.d2, (hk.cell 3 h.lt (Ne.symm hb)).trans h.d3⟩

/-- The world in the midst of the linking: i starts are set, xs is listed. -/
structure LnkAt (w wr : World) (F : FP) (i : Nat) (xs : List Nat) (Y C : Array Value) : Prop where
  fw : FlN w F
  low : ∀ j, j ≤ 14 → wr.cell? ⟨F.fb, j, none⟩ = w.cell? ⟨F.fb, j, none⟩
  fz : ∀ j, wr.frozen? ⟨F.fb, j, none⟩ = false
  k15 : wr.cell? ⟨F.fb, 15, none⟩ = some (.slice (some ⟨w.heap.size, 0, none⟩) (F.N + 1) (F.N + 1))
  k16 : wr.cell? ⟨F.fb, 16, none⟩ = some (.slice (some ⟨w.heap.size + 1, 0, none⟩) xs.length (4 * F.N))
  rest : ∀ j, 17 ≤ j → wr.cell? ⟨F.fb, j, none⟩ = w.cell? ⟨F.fb, j, none⟩
  hY : wr.heap[w.heap.size]? = some (.cells Y 3)
  ys : Y.size = F.N + 1
  yv : ∀ j, j < i → Y[j]? = some (.int .i64 (F.st j))
  hC : wr.heap[w.heap.size + 1]? = some (.cells C 50)
  cs : C.size = 4 * F.N
  cv : ∀ (j x : Nat), xs[j]? = some x → C[j]? = some (.int .i64 (x))
  kept : KeptBut F.fb w wr

section
variable {w wr : World} {F : FP} {i : Nat} {xs : List Nat} {Y C : Array Value}

theorem LnkAt.fl (h : LnkAt w wr F i xs Y C) : FlN wr F := h.fw.of h.kept h.low (fun j => (h.fz j).trans (h.fw.hdr.fz j).symm)
theorem LnkAt.lt (h : LnkAt w wr F i xs Y C) : w.heap.size + 1 < wr.heap.size := (Array.getElem?_eq_some_iff.1 h.hC).1

theorem LnkAt.below (h : LnkAt w wr F i xs Y C) {w' : World} (hb : Below wr.heap.size wr w') : LnkAt w w' F i xs Y C := by
  have hf : F.fb < wr.heap.size := Nat.lt_of_lt_of_le h.fw.hdr.hfb h.kept.size
  have hc : ∀ j, w'.cell? ⟨F.fb, j, none⟩ = wr.cell? ⟨F.fb, j, none⟩ := fun j => World.cell?_of_block (hb.block _ hf)
  exact ⟨h.fw, fun j hj => (hc j).trans (h.low j hj), fun j => (World.frozen?_of_block (hb.block _ hf)).trans (h.fz j), (hc 15).trans h.k15, (hc 16).trans h.k16, fun j hj => (hc j).trans (h.rest j hj), (hb.block _ (Array.getElem?_eq_some_iff.1 h.hY).1).trans h.hY, h.ys, h.yv,
    (hb.block _ (Array.getElem?_eq_some_iff.1 h.hC).1).trans h.hC, h.cs, h.cv, h.kept.below hb h.kept.size⟩
theorem LnkAt.ex (h : LnkAt w wr F i xs Y C) (z : World) : LnkAt w (wr.ext z) F i xs Y C := h.below (World.below_ext wr z)
theorem LnkAt.al (h : LnkAt w wr F i xs Y C) (o : Obj) : LnkAt w (wr.alloc o) F i xs Y C := h.below ((Below.rf wr).al o)

/-- One start is set. -/
theorem LnkAt.start (h : LnkAt w wr F i xs Y C) (hi : i ≤ F.N) (hx : xs.length = F.st i) :
    LnkAt w (wr.setCell ⟨w.heap.size, i, none⟩ (.int .i64 (xs.length))) F (i + 1) xs (Y.setIfInBounds i (.int .i64 (xs.length))) C := by
  have hfb := h.fw.hdr.hfb
  have hc : ∀ j, (wr.setCell ⟨w.heap.size, i, none⟩ (.int .i64 (xs.length))).cell? ⟨F.fb, j, none⟩ = wr.cell? ⟨F.fb, j, none⟩ := fun j => fld_far _ _ _ _ _ _ (by omega)
  refine ⟨h.fw, fun j hj => (hc j).trans (h.low j hj), fun j => by simpa using h.fz j, (hc 15).trans h.k15, (hc 16).trans h.k16, fun j hj => (hc j).trans (h.rest j hj), heap_setCell_same wr _ i Y 3 _ h.hY, by simpa using h.ys, fun j hj => ?_, ?_, h.cs, h.cv, h.kept.set (Or.inr (Nat.le_refl _)) _⟩
  · rw [Array.getElem?_setIfInBounds]
    by_cases hj2 : i = j
    · subst hj2; rw [if_pos rfl, if_pos (by rw [h.ys]; omega), hx]
    · rw [if_neg hj2]; exact h.yv j (by omega)
  · rw [Below.heap_setCell _ _ _ _ (by simp)]; exact h.hC

/-- One neighbour is listed. -/
theorem LnkAt.push (h : LnkAt w wr F i xs Y C) (x : Nat) (hx : xs.length < 4 * F.N) :
    LnkAt w ((wr.setCell ⟨w.heap.size + 1, xs.length, none⟩ (.int .i64 (x))).setCell ⟨F.fb, 16, none⟩ (.slice (some ⟨w.heap.size + 1, 0, none⟩) (xs.length + 1) (4 * F.N))) F i (xs ++ [x]) Y (C.setIfInBounds xs.length (.int .i64 (x))) := by
  have hfb := h.fw.hdr.hfb
  have hc0 : ∀ j, (wr.setCell ⟨w.heap.size + 1, xs.length, none⟩ (.int .i64 (x))).cell? ⟨F.fb, j, none⟩ = wr.cell? ⟨F.fb, j, none⟩ := fun j => fld_far _ _ _ _ _ _ (by omega)
  have hc : ∀ j, j ≠ 16 → ((wr.setCell ⟨w.heap.size + 1, xs.length, none⟩ (.int .i64 (x))).setCell ⟨F.fb, 16, none⟩ (.slice (some ⟨w.heap.size + 1, 0, none⟩) (xs.length + 1) (4 * F.N))).cell? ⟨F.fb, j, none⟩ = wr.cell? ⟨F.fb, j, none⟩ := fun j hj => (fld_ne _ _ _ _ _ (Ne.symm hj)).trans (hc0 j)
  refine ⟨h.fw, fun j hj => (hc j (by omega)).trans (h.low j hj), fun j => by simpa using h.fz j, (hc 15 (by omega)).trans h.k15, ?_, fun j hj => (hc j (by omega)).trans (h.rest j hj), ?_, h.ys, h.yv, ?_, by simpa using h.cs, fun j y hy => ?_,
    (h.kept.set (Or.inr (by simp)) _).set (Or.inl rfl) _⟩
  · rw [List.length_append]; exact World.cell?_setCell_same _ _ _ ((hc0 16).trans h.k16)
  · rw [Below.heap_setCell _ _ _ _ (by simp; omega), Below.heap_setCell _ _ _ _ (by simp)]; exact h.hY
  · rw [Below.heap_setCell _ _ _ _ (by simp; omega)]; exact heap_setCell_same wr _ _ C 50 _ h.hC
  · rw [Array.getElem?_setIfInBounds]
    by_cases hj : xs.length = j
    · subst hj
      rw [List.getElem?_append_right (Nat.le_refl _)] at hy
      simp at hy
      rw [if_pos rfl, if_pos (by rw [h.cs]; omega), hy]
    · rw [if_neg hj]
      have hlt : j < xs.length := by
        have := (List.getElem?_eq_some_iff.1 hy).1
        simp at this; omega
      rw [List.getElem?_append_left hlt] at hy
      exact h.cv j y hy

end
end Go.Proofs.Qxb6500715aFmt
