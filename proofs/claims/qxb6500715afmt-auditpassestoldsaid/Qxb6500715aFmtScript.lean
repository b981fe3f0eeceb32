/-
  The argument's reading opened: the script's memory. The listed variables opened.
-/
import Derived.Test.Qxb6500715aFmtLaw8b
import Derived.Test.Qxb6500715aFmtRows
import Derived.ProofKit
import Derived.SizedLaws
import Derived.Carry
import Derived.Deep.Slices
import Derived.Lib.SmallJoins
import Derived.LaidMore
import Derived.OpenShut
import Derived.Stop.Joined
namespace Go.Proofs.Qxb6500715aFmt
open Go.ChangeShapes Go.WideShapes Go.ChangeAt Go.RowKit Go.Deep
set_option linter.unusedSimpArgs false
set_option linter.unusedVariables false

theorem weightsAll_mem {H : Type} {P : Program} {e : TypeId} {d : DataW H} : ∀ {ds : List (DataW H)}, d ∈ ds → ∀ n ∈ d.weights P e, n ∈ DataW.weightsAll P e ds
  | [], h => nomatch h
  | x :: r, h => fun n hn => by
    simp only [DataW.weightsAll, List.mem_append]
    rcases List.mem_cons.1 h with rfl | h
    · exact .inl hn
    · exact .inr (weightsAll_mem h n hn)

theorem cells61 : Tryf.prog.cellsOf 33 = 4 := by kernel_rfl
theorem cells5 : Tryf.prog.cellsOf 5 = 1 := by kernel_rfl
theorem cells3 : Tryf.prog.cellsOf 3 = 1 := by kernel_rfl
theorem cells58 : Tryf.prog.cellsOf 30 = 1 := by kernel_rfl
theorem cells59 : Tryf.prog.cellsOf 31 = 1 := by kernel_rfl
theorem bytes5 : Tryf.prog.bytesOf 5 = 1 := by kernel_rfl
theorem add_none (b o k : Nat) : (⟨b, o, none⟩ : Addr).add k = ⟨b, o + k, none⟩ := by
  unfold Addr.add
  split
  · rename_i h; subst h; rfl
  · rfl

/-- One op of the script, as the memory holds it. -/
def OpAt (w : World) (sb o : Nat) (r : Int × Int × Int × Option Addr × Nat × Nat × (Nat → Int)) : Prop :=
  w.cell? ⟨sb, o, none⟩ = some (.int .i64 (r.1)) ∧ w.cell? ⟨sb, o + 1, none⟩ = some (.int .i64 (r.2.1)) ∧ w.cell? ⟨sb, o + 2, none⟩ = some (.int .i64 (r.2.2.1)) ∧
  w.cell? ⟨sb, o + 3, none⟩ = some (.slice r.2.2.2.1 r.2.2.2.2.1 r.2.2.2.2.2.1) ∧ r.2.2.2.2.1 ≤ r.2.2.2.2.2.1 ∧ r.2.2.2.2.1 ≤ 140737488355328 ∧
  (∀ j, 0 ≤ r.2.2.2.2.2.2 j ∧ r.2.2.2.2.2.2 j < 256) ∧
  (0 < r.2.2.2.2.1 → ∃ b off, r.2.2.2.1 = some ⟨b, off, none⟩ ∧ b < w.heap.size ∧ ∀ j, j < r.2.2.2.2.1 → w.cell? ⟨b, off + j, none⟩ = some (.int .u8 (r.2.2.2.2.2.2 j)))

variable {H : Type} {enc : TypeId × Value → H}

theorem op_open {W : World} {n sb o : Nat} {cs : List Value} {d : DataW H} {pl : List MemPlace} (hcs : W.cells? 0 ⟨sb, o, none⟩ 4 = some cs)
    (h : DataW.trod enc Tryf.prog W 0 (fun _ => true) true n 33 cs = some (d, pl)) (hsz : ∀ x ∈ d.weights Tryf.prog 33, x ≤ reachBytes) : ∃ r, OpAt W sb o r := by
  obtain ⟨_, hl, hc⟩ := World.cells?_some hcs
  obtain ⟨y0, y1, y2, y3, m, hx, _, h0, h1, h2, h3⟩ := Go.Joins.trod_struct4 Tryf.underlying33 h
  simp only [cells58, cells3, cells59] at h0 h1 h2 h3
  obtain ⟨rfl, rfl⟩ := Prod.mk.inj hx
  match cs, hl with
  | [c0, c1, c2, c3], _ =>
  simp only [List.drop_zero, List.drop_succ_cons, List.take_succ_cons, List.take_zero] at h0 h1 h2 h3
  obtain ⟨k0, e0, _, _⟩ := DataW.trod_int Tryf.underlying30 h0
  obtain ⟨k1, e1, _, _⟩ := DataW.trod_int Tryf.underlying3 h1
  obtain ⟨k2, e2, _, _⟩ := DataW.trod_int Tryf.underlying3 h2
  simp only [List.cons.injEq, and_true] at e0 e1 e2
  subst e0 e1 e2
  have g0 := hc 0 (by omega)
  have g1 := hc 1 (by omega)
  have g2 := hc 2 (by omega)
  have g3 := hc 3 (by omega)
  simp only [add_none, Nat.add_zero, List.getElem?_cons_zero, List.getElem?_cons_succ] at g0 g1 g2 g3
  rcases open_ints Tryf.underlying31 Tryf.underlying5 cells5 h3 with ⟨e3, _⟩ | ⟨a, len, cap, zs, e3, _, hlc, hm, hzl, hy, hz, hwf⟩
  · simp only [List.cons.injEq, and_true] at e3
    subst e3
    exact ⟨⟨k0, k1, k2, none, 0, 0, fun _ => 0⟩, g0, g1, g2, g3, Nat.le_refl _, by simp, by simp, by simp⟩
  · simp only [List.cons.injEq, and_true] at e3
    subst e3
    simp only [if_true] at hzl
    have hlen : len ≤ 140737488355328 := by
      have := hsz ((len + (cap - len)) * 1) (by
        rw [hy]
        simp [DataW.weights, DataW.weightsEach, Tryf.underlying33, Tryf.underlying31, bytes5, lits, hzl, Nat.min_eq_left hlc])
      simp only [reachBytes] at this
      omega
    refine ⟨⟨k0, k1, k2, some a, len, cap, fun j => zs.getD j 0⟩, g0, g1, g2, g3, hlc, hlen, ?_, ?_⟩
    · intro j
      by_cases hj : j < zs.length
      · have := hwf (zs.getD j 0) (by rw [List.getD_eq_getElem?_getD, List.getElem?_eq_getElem hj]; exact List.getElem_mem hj)
        have h8 : 0 ≤ zs.getD j 0 ∧ zs.getD j 0 ≤ 255 := by
          simpa [Lit.wf, IntKind.min, IntKind.max, IntKind.signed, IntKind.bits] using this
        exact ⟨h8.1, Int.lt_of_le_of_lt h8.2 (by decide)⟩
      · simp [List.getD_eq_getElem?_getD, List.getElem?_eq_none (Nat.le_of_not_lt hj)]
    · intro hpos0
      have hpos : 0 < len := hpos0
      have c0 := hz 0 (by omega)
      obtain ⟨b, off, spot⟩ := a
      have hs : spot = none := by simpa [Addr.add] using World.cell?_spot c0
      subst hs
      refine ⟨b, off, rfl, World.block_lt_of_cell? W ⟨b, off, none⟩ (by simpa [add_none] using c0), fun j hj => ?_⟩
      have hj' : j < len := hj
      have := hz j (by omega)
      rwa [add_none] at this

theorem script_open {W : World} {v : Value} {d : DataW H} {ps : List MemPlace} (hv : ∃ a len cap, v = .slice a len cap)
    (h : DataW.Trod enc Tryf.prog W 0 (fun _ => true) true 22 v d ps) (hsz : ∀ x ∈ d.weights Tryf.prog 22, x ≤ reachBytes) :
    (∃ ao cap, v = .slice ao 0 cap) ∨ ∃ sb so n cap K A B dao dlen dcap f, v = .slice (some ⟨sb, so, none⟩) n cap ∧ n ≤ 9223372036854775807 ∧ Script W sb so n K A B dao dlen dcap f := by
  obtain ⟨a', len', cap', rfl⟩ := hv
  obtain ⟨fuel, h⟩ := h
  simp only [Value.cells] at h
  rcases open_slice Tryf.underlying22 h with ⟨e, _⟩ | ⟨a, len, cap, m, n, D, Pl, e, _, hlc, hm, hmm, hx, hall⟩
  · simp only [List.cons.injEq, and_true, Value.slice.injEq] at e
    obtain ⟨rfl, rfl, rfl⟩ := e
    exact .inl ⟨_, _, rfl⟩
  · simp only [List.cons.injEq, and_true, Value.slice.injEq] at e
    obtain ⟨rfl, rfl, rfl⟩ := e
    simp only [if_true] at hmm
    subst hmm
    by_cases h0 : len' = 0
    · subst h0
      exact .inl ⟨_, _, rfl⟩
    right
    obtain ⟨rfl, _⟩ := Prod.mk.inj hx
    rw [cells61] at hall
    obtain ⟨sb, so, spot⟩ := a
    have hs : spot = none := by
      obtain ⟨cs, hcs, _⟩ := hall 0 (by omega)
      obtain ⟨_, hl, hc⟩ := World.cells?_some hcs
      have c0 := hc 0 (by omega)
      match cs, hl with
      | c :: _, _ => simpa [Addr.add] using World.cell?_spot c0
    subst hs
    simp only [add_none] at hall
    have hops : ∀ i, i < len' → ∃ r, OpAt W sb (so + i * 4) r := fun i hi => by
      obtain ⟨cs, hcs, ht⟩ := hall i (by omega)
      refine op_open hcs ht fun x hx => hsz x ?_
      simp only [DataW.weights, Tryf.underlying22, List.mem_cons, List.mem_append]
      exact .inr (.inl (weightsAll_mem (List.mem_map.2 ⟨i, List.mem_range.2 hi, rfl⟩) x hx))
    obtain ⟨R, hR⟩ := choose_lt hops
    have hz : ∀ i j, 0 ≤ (if i < len' then (R i).2.2.2.2.2.2 j else 0) ∧ (if i < len' then (R i).2.2.2.2.2.2 j else 0) < 256 := fun i j => by
      split
      · rename_i hi; exact (hR i hi).2.2.2.2.2.2.1 j
      · simp
    refine ⟨sb, so, len', m, fun i => (R i).1, fun i => (R i).2.1, fun i => (R i).2.2.1, fun i => (R i).2.2.2.1, fun i => (R i).2.2.2.2.1, fun i => (R i).2.2.2.2.2.1, fun i j => if i < len' then (R i).2.2.2.2.2.2 j else 0, rfl, ?_, ?_⟩
    · unfold maxLen at hm; omega
    · exact {
        hsb := World.block_lt_of_cell? W ⟨sb, so + 0 * 4, none⟩ (hR 0 (by omega)).1
        hK := fun i hi => (hR i hi).1
        hA := fun i hi => (hR i hi).2.1
        hB := fun i hi => (hR i hi).2.2.1
        hD := fun i hi => (hR i hi).2.2.2.1
        hlen := fun i hi => ⟨(hR i hi).2.2.2.2.1, (hR i hi).2.2.2.2.2.1⟩
        hf := hz
        hdata := fun i hi hp => by
          obtain ⟨b, off, h1, h2, h3⟩ := (hR i hi).2.2.2.2.2.2.2 hp
          exact ⟨b, off, h1, h2, fun j hj => by simp only [hi, if_true]; exact h3 j hj⟩ }
end Go.Proofs.Qxb6500715aFmt
