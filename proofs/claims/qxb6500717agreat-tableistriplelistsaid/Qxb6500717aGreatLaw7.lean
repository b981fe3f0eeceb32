/-
  HeldWithinCapacity: the law.
-/
import Derived.Test.Qxb6500717aGreatAll
namespace Go.Proofs.Qxb6500717aGreat
open Go.RowKit
set_option linter.unusedSimpArgs false
set_option linter.unusedVariables false
set_option maxRecDepth 20000
set_option maxHeartbeats 4000000

def OrdO (O : Option TabS) : Prop := ∀ T, O = some T → Ord T
theorem Ord.new (nc nr cap : Nat) : Ord (TabS.new nc nr cap) := fun r _ => SOrd.nil 0
theorem Ord.cutT {T : TabS} (h : Ord T) (r t : Int) : Ord (T.cutT r t).2 := by
  unfold TabS.cutT
  split
  · exact h.trunc _ _
  · exact h
theorem Ord.step {T : TabS} (h : Ord T) (hb : TBd T) (o : Opr) : Ord (T.step o).2 := by
  unfold TabS.step
  split
  · exact h.advT _
  · split
    · exact h.reserve _ _ _
    · split
      · exact h.path _ _ _
      · split
        · exact h.stand hb _ _ _
        · split
          · exact h.cutT _ _
          · split
            · exact h.cutT _ _
            · split <;> exact h
theorem OrdO.step {O : Option TabS} (h : OrdO O) (hb : ∀ T, O = some T → TBd T) (o : Opr) : OrdO (stepO O o).2 := by
  intro T hT
  unfold stepO at hT
  split at hT
  · unfold stepNew at hT
    split at hT
    · simp only [Option.some.injEq] at hT
      rw [← hT]; exact Ord.new _ _ _
    · exact h T hT
  · split at hT
    · exact h T hT
    · split at hT
      · cases hT
      · rename_i T0
        simp only [Option.some.injEq] at hT
        rw [← hT]; exact (h T0 rfl).step (hb T0 rfl) o
theorem Desk.bd {w : World} {lab : Nat → Nat} {d k : Nat} {O : Option TabS} (h : Desk w lab d k O) : ∀ T, O = some T → TBd T ∧ Con T := by
  intro T e
  subst e
  obtain ⟨tv, N, S, -, -, -, M, -, h2, h3⟩ := h.ex
  exact ⟨h2.bd, h3⟩

/-- A script is being played. -/
structure Play (w0 wr : World) (lab : Nat → Nat) (d i : Nat) (O : Option TabS) : Prop where
  dk : Desk wr lab d i O
  bl : Below w0.heap.size w0 wr
  l0 : ∀ j, j < w0.heap.size → lab j = 0
theorem Play.below {w0 wr w' : World} {lab : Nat → Nat} {d i : Nat} {O : Option TabS} (h : Play w0 wr lab d i O) (hb : Below wr.heap.size wr w') : Play w0 w' lab d i O :=
  ⟨h.dk.below hb, h.bl.trans (hb.mono h.bl.size), h.l0⟩
theorem Play.next {w0 wr w5 : World} {lab lab5 : Nat → Nat} {d i k : Nat} {O O' : Option TabS} (h : Play w0 wr lab d i O) (hd : Desk w5 lab5 d k O') (hl : ∀ j, j < wr.heap.size → lab5 j = lab j) (hk : KeptL lab tagL wr w5) : Play w0 w5 lab5 d k O' := by
  have hs := h.bl.size
  refine ⟨hd, ⟨by rw [hk.os, h.bl.os], by rw [hk.tape, h.bl.tape], by rw [hk.output, h.bl.output], by have := hk.size; omega, fun j hj => ?_⟩, fun j hj => by rw [hl j (by omega)]; exact h.l0 j hj⟩
  rw [hk.block j (by omega) (by rw [h.l0 j hj]; unfold tagL; omega), h.bl.block j hj]
theorem Play.opr {w0 wr : World} {lab : Nat → Nat} {d i k : Nat} {O : Option TabS} (h : Play w0 wr lab d k O) {sb so n : Nat} {o : Nat → Opr} {lao : Nat → Option Addr} {llen lcap : Nat → Nat} (hS : Scr w0 sb so n o lao llen lcap) (hi : i < n) (hl : llen i ≤ 65536) : OprAt wr lab (o i) (lao i) (llen i) := by
  refine ⟨hS.hC i hi, hS.hn i hi, by omega, fun j c hj => ?_⟩
  obtain ⟨b, a, h1, h2, h3⟩ := hS.hrow i hi j c hj
  exact ⟨b, a, h1, by have := h.bl.size; omega, h.l0 b h2, by rw [World.cell?_of_block (h.bl.block b h2)]; exact h3⟩


end Go.Proofs.Qxb6500717aGreat
