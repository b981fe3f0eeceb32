/-
  Refines: the law.
-/
import Derived.Test.Qxb6500717aGreatLaw3a
import Derived.Test.Qxb6500717aGreatLaw7
namespace Go.Proofs.Qxb6500717aGreat
open Go.RowKit
set_option linter.unusedSimpArgs false
set_option linter.unusedVariables false
set_option maxRecDepth 20000
set_option maxHeartbeats 4000000

theorem stepA_len (T : TabS) (o : Opr) : (T.stepA o).1.2.length ≤ 3 := by
  have hc : ∀ x : Int × Nat × TabS, (cutV x).length ≤ 3 := fun x => by unfold cutV remV; split <;> simp
  have hi : ∀ (c : Prop) [Decidable c] (x y : (Int × List Int) × TabS), x.1.2.length ≤ 3 → y.1.2.length ≤ 3 → (if c then x else y).1.2.length ≤ 3 := fun c _ x y h1 h2 => by split <;> assumption
  unfold TabS.stepA
  repeat' apply hi
  all_goals first | exact hc _ | simp
theorem dk_len {Q : DkS} {o : Opr} {X : (Int × List Int) × DkS} (h : dkRel Q o X) : X.1.2.length ≤ 3 := by
  have hh : ∀ L, (headA L).2.length ≤ 3 := fun L => by unfold headA; split <;> simp
  unfold dkRel at h
  split at h
  · rw [h.1]; simp
  · split at h
    · rw [h.1]; exact hh _
    · subst h
      have hi : ∀ (c : Prop) [Decidable c] (x y : (Int × List Int) × DkS), x.1.2.length ≤ 3 → y.1.2.length ≤ 3 → (if c then x else y).1.2.length ≤ 3 := fun c _ x y h1 h2 => by split <;> assumption
      unfold dkFun
      repeat' apply hi
      all_goals first | exact hh _ | (unfold lookA; split <;> simp; done) | (simp; done) | (split <;> first | exact stepA_len _ _ | simp)
/-- The two side by side while a script is played. -/
structure Both (w0 wr : World) (lab : Nat → Nat) (d m i : Nat) (Q : DkS) (M : ModS) : Prop where
  dk : DeskX wr lab d i Q
  md : ModX wr lab m i M
  bl : Below w0.heap.size w0 wr
  l0 : ∀ j, j < w0.heap.size → lab j = 0
  hm : w0.heap.size ≤ m
  rl : Rel Q M
  od : OrdO Q.O
  nc : NocO Q.O
theorem DeskX.bd {w : World} {lab : Nat → Nat} {d k : Nat} {Q : DkS} (h : DeskX w lab d k Q) : ∀ T, Q.O = some T → TBd T ∧ Con T := by
  intro T e
  obtain ⟨tv, N, -, -, h3⟩ := h.ex
  rw [e] at h3
  obtain ⟨M, -, h2, h3⟩ := h3
  exact ⟨h2.bd, h3⟩
section
variable {w0 wr w' : World} {lab : Nat → Nat} {d m i : Nat} {Q : DkS} {M : ModS}
theorem Both.below (h : Both w0 wr lab d m i Q M) (hb : Below wr.heap.size wr w') : Both w0 w' lab d m i Q M :=
  ⟨h.dk.below hb, h.md.below hb, h.bl.trans (hb.mono h.bl.size), h.l0, h.hm, h.rl, h.od, h.nc⟩
theorem Both.fit (h : Both w0 wr lab d m i Q M) : ∀ T, Q.O = some T → Fit T := fun T e => ⟨(h.dk.bd T e).1, (h.dk.bd T e).2, h.od T e, h.nc T e⟩
theorem Both.opr (h : Both w0 wr lab d m i Q M) {sb so n k : Nat} {o : Nat → Opr} {lao : Nat → Option Addr} {llen lcap : Nat → Nat} (hS : Scr w0 sb so n o lao llen lcap) (hi : k < n) (hl : llen k ≤ 65536) : OprAt wr lab (o k) (lao k) (llen k) := by
  refine ⟨hS.hC k hi, hS.hn k hi, by omega, fun j c hj => ?_⟩
  obtain ⟨b, a, h1, h2, h3⟩ := hS.hrow k hi j c hj
  exact ⟨b, a, h1, by have := h.bl.size; omega, h.l0 b h2, by rw [World.cell?_of_block (h.bl.block b h2)]; exact h3⟩
theorem oprM {w5 : World} (hb : Below w0.heap.size w0 w5) (hm : w0.heap.size ≤ m) {sb so n k : Nat} {o : Nat → Opr} {lao : Nat → Option Addr} {llen lcap : Nat → Nat} (hS : Scr w0 sb so n o lao llen lcap) (hi : k < n) (hl : llen k ≤ 65536) : OprM w5 m (o k) (lao k) (llen k) := by
  refine ⟨hS.hA k hi, hS.hB k hi, hS.hC k hi, hS.hn k hi, by omega, fun j c hj => ?_⟩
  obtain ⟨b, a, h1, h2, h3⟩ := hS.hrow k hi j c hj
  exact ⟨b, a, h1, by omega, by rw [World.cell?_of_block (hb.block b h2)]; exact h3⟩
end
end Go.Proofs.Qxb6500717aGreat
