/-
  All that a search holds; what reach keeps.
-/
import Derived.Test.Qxb6500716aPv
namespace Go.Proofs.Qxb6500716a
open Go.RowKit Go.Maps
set_option linter.unusedSimpArgs false
set_option linter.unusedVariables false
set_option maxRecDepth 20000
set_option maxHeartbeats 4000000

/-- Floor, table, planner and run in memory. -/
structure Al (w : World) (lab : Nat → Nat) (M : TM) (T : TS) (N : PM) (S : PS) (n rb fb : Nat) (F : FS) (q : Rq) (gv tv av : Value) (bay hz : Int) : Prop where
  f : FAt w lab fb F
  t : TAt w lab M T
  p : PAt w lab N fb M.t S n
  r : RAt w lab rb N.p fb F q gv tv av bay hz
theorem KeptL.lab {lab lab' : Nat → Nat} {A : Nat → Prop} {w w' : World} (h : KeptL lab A w w') (hl : ∀ k, k < w.heap.size → lab' k = lab k) : KeptL lab' A w w' :=
  ⟨h.os, h.tape, h.output, h.size, fun k hk hn => h.block k hk (by rw [← hl k hk]; exact hn)⟩
section
variable {w w' : World} {lab lab' : Nat → Nat} {M : TM} {T : TS} {N N' : PM} {S S' : PS} {n n' rb fb : Nat} {F : FS} {q : Rq} {gv tv av : Value} {bay hz : Int}
theorem Al.step (h : Al w lab M T N S n rb fb F q gv tv av bay hz) (hl : ∀ k, k < w.heap.size → lab' k = lab k) (hk : KeptL lab scrL w w') (hp : PAt w' lab' N' fb M.t S' n') (hN : N'.p = N.p) : Al w' lab' M T N' S' n' rb fb F q gv tv av bay hz := by
  have hk' := hk.lab hl
  have hz : ∀ b, b < w.heap.size → (lab b = 0 ∨ 10 ≤ lab b) → (lab' b = 0 ∨ 10 ≤ lab' b) := fun b hb hx => by rw [hl b hb]; exact hx
  refine ⟨(h.f.relab hz).keptL hk' (fun x hx => by unfold scrL at hx; omega), (h.t.relab hl).keptL hk' (by unfold scrL; omega) (by unfold scrL; omega) (by unfold scrL; omega), hp, ?_⟩
  rw [hN]
  exact (h.r.relab hz).keptL hk' (fun x hx => by unfold scrL at hx; omega)
theorem Al.below (h : Al w lab M T N S n rb fb F q gv tv av bay hz) (hb : Below w.heap.size w w') : Al w' lab M T N S n rb fb F q gv tv av bay hz := ⟨h.f.below hb, h.t.below hb, h.p.below hb, h.r.below hb⟩
theorem Al.relab (h : Al w lab M T N S n rb fb F q gv tv av bay hz) (hl : ∀ k, k < w.heap.size → lab' k = lab k) : Al w lab' M T N S n rb fb F q gv tv av bay hz :=
  ⟨h.f.relab (fun b hb hx => by rw [hl b hb]; exact hx), h.t.relab hl, h.p.relab hl, h.r.relab (fun b hb hx => by rw [hl b hb]; exact hx)⟩
end
/-- What a run's numbers meet. -/
structure Rok (F : FS) (T : TS) (q : Rq) (bay hz : Int) : Prop where
  gok : F.gok q.gl
  bay : 0 ≤ bay ∧ bay < (F.n : Int)
  hz : 0 ≤ hz ∧ hz ≤ 255
  r : 0 ≤ q.r ∧ q.r < (F.bays.length : Int)
  s : 0 ≤ q.s ∧ q.s < (F.n : Int)
  t : (T.base : Int) ≤ q.t ∧ q.t < (T.base : Int) + 256
  h : 0 ≤ q.h ∧ q.h ≤ 255
  m : 1 ≤ q.m ∧ q.m ≤ 1048576
/-- What a search's state meets; B bounds its lists. -/
structure Sok (F : FS) (q : Rq) (hz : Int) (S : PS) (B : Nat) : Prop where
  ms : (hz + 1) * ((q.gl.length : Int) + 1) * (F.n : Int) ≤ (S.ms : Int)
  ms2 : S.ms ≤ 4000000
  nd : S.nd.length ≤ B
  hp : S.hp.length ≤ B
  ok : ∀ x, x ∈ S.nd → x.c < F.n ∧ x.l ≤ q.gl.length ∧ (x.o : Int) ≤ hz ∧ -1 ≤ x.p ∧ x.p < (S.nd.length : Int)
  hv : ∀ x, x ∈ S.hp → x.v < S.nd.length
theorem Sok.reach {F : FS} {q : Rq} {bay hz : Int} {S : PS} {B : Nat} (h : Sok F q hz S B) (c o l : Nat) (p : Int) (hc : c < F.n) (hl : l ≤ q.gl.length) (hp : -1 ≤ p ∧ p < (S.nd.length : Int) + 1) : Sok F q hz (S.reach F q.gl bay hz c o l p) (B + 1) ∧ S.nd.length ≤ (S.reach F q.gl bay hz c o l p).nd.length := by
  unfold PS.reach
  split
  · exact ⟨⟨h.ms, h.ms2, by have := h.nd; omega, by have := h.hp; omega, h.ok, h.hv⟩, Nat.le_refl _⟩
  · rename_i g1
    split
    · exact ⟨⟨h.ms, h.ms2, by have := h.nd; omega, by have := h.hp; omega, h.ok, h.hv⟩, Nat.le_refl _⟩
    · refine ⟨⟨h.ms, h.ms2, by have := h.nd; simp; omega, by have := h.hp; simp; omega, fun x hx => ?_, fun x hx => ?_⟩, by simp⟩
      · simp only [List.mem_append, List.mem_singleton] at hx
        rcases hx with hx | rfl
        · have := h.ok x hx
          refine ⟨this.1, this.2.1, this.2.2.1, this.2.2.2.1, ?_⟩
          have := this.2.2.2.2
          simp; omega
        · exact ⟨hc, hl, by simp only; omega, hp.1, by simp; omega⟩
      · simp only [List.mem_append, List.mem_singleton] at hx
        rcases hx with hx | rfl
        · have := h.hv x hx
          simp; omega
        · simp
theorem near_val (fb : Nat) (F : FS) (lab : Nat → Nat) (c : Nat) (hc : c < F.n) (w : World) (h : FAt w lab fb F) : ∃ v, Ints w lab v (F.near c) ∧ ∀ w' : World, KeptL lab scrL w w' → Calls Try.prog 32 #[.pointer (some ⟨fb, 0, none⟩), .int .i64 (c)] w' fun e w'' => e = .returned v ∧ w'' = w' := by
  obtain ⟨b, c2, hb, hbl, hr⟩ := h.near
  obtain ⟨v, cv, hi⟩ := hr c hc
  refine ⟨v, hi, fun w' hw => ?_⟩
  obtain ⟨ao, cap, hv, hcc⟩ := hi.ex
  have hlt := h.lt
  have hfl := h.lb
  have c2' := (hw.cell 2 hlt (by unfold scrL; omega)).trans c2
  have cv' := (hw.cell c hb (by unfold scrL; omega)).trans cv
  have hsz := hw.size
  subst hv
  clear h hr hi
  go_enter Try.func32, Try.ntmps32
  go_wp2
  go_ret
  exact ⟨rfl, rfl⟩
end Go.Proofs.Qxb6500716a
