/-
  The heap's operations, exactly.
-/
import Derived.Test.Qxb6500717aGreatHx
import Derived.Test.Qxb6500717aGreatHp2
namespace Go.Proofs.Qxb6500717aGreat
open Go.RowKit
set_option linter.unusedSimpArgs false
set_option linter.unusedVariables false

/-- The desk, its heap exactly: the nodes L, nx the number of the next push. -/
structure DX (w : World) (lab : Nat → Nat) (d : Nat) (tv mv : Value) (L : List Ent) (nx : Nat) : Prop where
  ld : lab d = 1
  lt : d < w.heap.size
  c0 : w.cell? ⟨d, 0, none⟩ = some tv
  c2 : w.cell? ⟨d, 2, none⟩ = some (.int .i64 (nx))
  c3 : w.cell? ⟨d, 3, none⟩ = some mv
  fz : ∀ i, i < 4 → w.frozen? ⟨d, i, none⟩ = false
  hp : ∃ (ao : Option Addr) (cap : Nat), w.cell? ⟨d, 1, none⟩ = some (.slice ao L.length cap) ∧ L.length ≤ cap ∧ ((ao = none ∧ cap = 0) ∨ ∃ b, ao = some ⟨b, 0, none⟩ ∧ lab b = 2 ∧ 1 ≤ cap ∧ HX w b cap L)
section
variable {w w' : World} {lab lab' : Nat → Nat} {d nx : Nat} {tv mv : Value} {L : List Ent}
theorem DX.of (h : DX w lab d tv mv L nx) (hs : w.heap.size ≤ w'.heap.size) (hl : ∀ j, j < w.heap.size → lab' j = lab j) (hb : ∀ j, j < w.heap.size → lab j = 1 ∨ lab j = 2 → w'.heap[j]? = w.heap[j]?) : DX w' lab' d tv mv L nx := by
  have e := hb d h.lt (Or.inl h.ld)
  have ce : ∀ i, w'.cell? ⟨d, i, none⟩ = w.cell? ⟨d, i, none⟩ := fun i => World.cell?_of_block e
  refine ⟨(hl d h.lt).trans h.ld, Nat.lt_of_lt_of_le h.lt hs, (ce 0).trans h.c0, (ce 2).trans h.c2, (ce 3).trans h.c3, fun i hi => (World.frozen?_of_block e).trans (h.fz i hi), ?_⟩
  obtain ⟨ao, cap, h1, h5, h6⟩ := h.hp
  refine ⟨ao, cap, (ce 1).trans h1, h5, ?_⟩
  rcases h6 with h6 | ⟨b, e1, e2, e3, e4⟩
  · exact Or.inl h6
  · exact Or.inr ⟨b, e1, (hl b e4.lt).trans e2, e3, Pad.of_block e4 hs (hb b e4.lt (Or.inr e2))⟩
theorem DX.below (h : DX w lab d tv mv L nx) (hb : Below w.heap.size w w') : DX w' lab d tv mv L nx := h.of hb.size (fun _ _ => rfl) (fun j hj _ => hb.block j hj)
end
def hpXPost (lab : Nat → Nat) (d : Nat) (tv mv : Value) (X : Ending → List Ent → Nat → Prop) (w : World) (e : Ending) (w' : World) : Prop :=
  ∃ (L' : List Ent) (nx' : Nat), X e L' nx' ∧ ∃ lab', DX w' lab' d tv mv L' nx' ∧ (∀ j, j < w.heap.size → lab' j = lab j) ∧ KeptL lab (fun x => x = 1 ∨ x = 2) w w'

theorem hlenX (d : Nat) (lab : Nat → Nat) (tv mv : Value) (L : List Ent) (nx : Nat) (w : World) (h : DX w lab d tv mv L nx) : Calls Tryz.prog 19 #[.pointer (some ⟨d, 1, none⟩)] w fun e w' => e = .returned (.int .i64 (L.length)) ∧ w' = w := by
  obtain ⟨ao, cap, h1, h5, h6⟩ := h.hp
  have l1 := h.lt
  clear h h6
  go_enter Tryz.func19, Tryz.ntmps19
  go_wp2
  go_ret
  exact ⟨rfl, rfl⟩

theorem hresetX (d : Nat) (lab : Nat → Nat) (tv mv : Value) (L : List Ent) (nx : Nat) (w : World) (h : DX w lab d tv mv L nx) : Calls Tryz.prog 20 #[.pointer (some ⟨d, 1, none⟩)] w (hpXPost lab d tv mv (fun e L' nx' => e = .returned (.tuple #[]) ∧ L' = [] ∧ nx' = 0) w) := by
  have HH := hid h
  obtain ⟨ao, cap, h1, h5, h6⟩ := h.hp
  have l1 := h.lt
  have h2 := h.c2
  have f1 := h.fz 1 (by omega)
  have f2 := h.fz 2 (by omega)
  have hsl : ∀ w, (Instr.sliceAt 43 (.slice ao L.length cap) none (some (.int .i64 (0))) none).run Tryz.prog w = .ok (.slice ao 0 cap) w := by
    rcases h6 with ⟨rfl, rfl⟩ | ⟨b, rfl, e2, e3, e4⟩
    · have e0 : L.length = 0 := by omega
      rw [e0]
      exact slice_hnil
    · exact slice_hp b 0 L.length cap (by omega) (by omega)
  have H6 := hid h6
  clear h h6
  go_enter Tryz.func20, Tryz.ntmps20
  go_wp2
  refine bodyPost_end (v := .tuple #[]) (by simp [results, Tryz.results20]) rfl ?_
  refine ⟨[], 0, ⟨rfl, rfl, rfl⟩, lab, ?_, fun _ _ => rfl, ((KeptL.refl lab _ w).set (Or.inl HH.out.ld) _).set (Or.inl HH.out.ld) _⟩
  refine ⟨HH.out.ld, by simpa using l1, by simp [go_sem, ↓IntWalk.iteOmega]; exact HH.out.c0, by simp [go_sem, ↓IntWalk.iteOmega, *], by simp [go_sem, ↓IntWalk.iteOmega]; exact HH.out.c3, fun i hi => by rw [World.frozen?_setCell, World.frozen?_setCell]; exact HH.out.fz i hi, ao, cap, by simp [go_sem, ↓IntWalk.iteOmega, *], by simp, ?_⟩
  rcases H6.out with h6 | ⟨b, e1, e2, e3, e4⟩
  · exact Or.inl h6
  · have hne : b ≠ d := fun e => by have := HH.out.ld; rw [← e, e2] at this; omega
    exact Or.inr ⟨b, e1, e2, e3, ((e4.take 0).kept ((KeptBut.refl d w).set' _ _) hne).kept ((KeptBut.refl d _).set' _ _) hne⟩

def headE (L : List Ent) (e : Ending) : Prop := (L = [] ∧ e = .returned (.tuple #[.agg #[.int .i64 (0), .int .i64 (0), .int .i64 (0)], .bool false])) ∨ (L ≠ [] ∧ e = .returned (.tuple #[.agg #[.int .i64 ((at0 L 0).1), .int .i64 ((at0 L 0).2.1), .int .i64 ((at0 L 0).2.2.1)], .bool true]))
set_option maxRecDepth 20000 in
theorem hpeekX (d : Nat) (lab : Nat → Nat) (tv mv : Value) (L : List Ent) (nx : Nat) (w : World) (h : DX w lab d tv mv L nx) : Calls Tryz.prog 18 #[.pointer (some ⟨d, 1, none⟩)] w fun e w' => headE L e ∧ ∃ z, w' = w.ext z := by
  obtain ⟨ao, cap, h1, h5, h6⟩ := h.hp
  have l1 := h.lt
  cases hL : L with
  | nil =>
    subst hL
    have : Calls Tryz.prog 18 #[.pointer (some ⟨d, 1, none⟩)] w fun e w' => e = .returned (.tuple #[.agg #[.int .i64 (0), .int .i64 (0), .int .i64 (0)], .bool false]) ∧ ∃ z, w' = w.ext z := by
      clear h h6
      go_enter Tryz.func18, Tryz.ntmps18
      go_wp2
      refine bodyPost_ret (v := .tuple #[.agg #[.int .i64 (0), .int .i64 (0), .int .i64 (0)], .bool false]) (by simp [results, Tryz.results18, go_sem, ↓IntWalk.iteOmega]) rfl ?_
      refine ⟨rfl, ?_⟩
      refine Below.is_ext ?_
      (repeat (first | with_reducible exact Below.rf _ | with_reducible exact World.below_ext _ _ | with_reducible refine Below.ex ?_ _ | with_reducible refine Below.al ?_ _ | with_reducible refine Below.setCell ?_ (by simp) _ | with_reducible refine Below.drew ?_))
    exact this.mono (fun e w' hh => ⟨Or.inl ⟨rfl, hh.1⟩, hh.2⟩)
  | cons a L0 =>
    rw [← hL]
    obtain ⟨n, hn⟩ : ∃ n, L.length = n + 1 := ⟨L0.length, by rw [hL]; rfl⟩
    rcases h6 with ⟨rfl, rfl⟩ | ⟨b, rfl, e2, e3, e4⟩
    · omega
    obtain ⟨p0, p1, p2, p3, -⟩ := e4.at (i := 0) (by omega)
    have lb := e4.lt
    rw [Nat.zero_mul] at p0 p1 p2 p3
    rw [hn] at h1 h5
    have : Calls Tryz.prog 18 #[.pointer (some ⟨d, 1, none⟩)] w fun e w' => e = .returned (.tuple #[.agg #[.int .i64 ((at0 L 0).1), .int .i64 ((at0 L 0).2.1), .int .i64 ((at0 L 0).2.2.1)], .bool true]) ∧ ∃ z, w' = w.ext z := by
      have b1 : (((n + 1 : Nat) : Int) == 0) = false := by simp; omega
      clear h hL e4 hn
      go_enter Tryz.func18, Tryz.ntmps18
      go_wp2
      refine bodyPost_ret (v := .tuple #[.agg #[.int .i64 ((at0 L 0).1), .int .i64 ((at0 L 0).2.1), .int .i64 ((at0 L 0).2.2.1)], .bool true]) (by simp [results, Tryz.results18, go_sem, ↓IntWalk.iteOmega]) rfl ?_
      refine ⟨rfl, ?_⟩
      refine Below.is_ext ?_
      (repeat (first | with_reducible exact Below.rf _ | with_reducible exact World.below_ext _ _ | with_reducible refine Below.ex ?_ _ | with_reducible refine Below.al ?_ _ | with_reducible refine Below.setCell ?_ (by simp) _ | with_reducible refine Below.drew ?_))
    exact this.mono (fun e w' hh => ⟨Or.inr ⟨by rw [hL]; simp, hh.1⟩, hh.2⟩)
end Go.Proofs.Qxb6500717aGreat
