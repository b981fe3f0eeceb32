/-
  The argument's reading opened: the script's memory.
-/
import Derived.Test.Qxb6500717aGreatAll
import Derived.Test.Qxb6500717aGreatRows
import Derived.ProofKit
import Derived.SizedLaws
import Derived.Carry
import Derived.Deep.Slices
import Derived.Lib.SmallJoins
import Derived.OpenShut
import Derived.Stop.Joined
namespace Go.Proofs.Qxb6500717aGreat
open Go.ChangeShapes Go.WideShapes Go.ChangeAt Go.RowKit Go.Deep
set_option linter.unusedSimpArgs false
set_option linter.unusedVariables false

theorem own : ownKnob Tryz.prog.godebug = none := by kernel_rfl
theorem laidOut : laidOutB Tryz.prog = true := by kernel_rfl

theorem weightsAll_mem {H : Type} {P : Program} {e : TypeId} {d : DataW H} : ∀ {ds : List (DataW H)}, d ∈ ds → ∀ n ∈ d.weights P e, n ∈ DataW.weightsAll P e ds
  | [], h => nomatch h
  | x :: r, h => fun n hn => by
    simp only [DataW.weightsAll, List.mem_append]
    rcases List.mem_cons.1 h with rfl | h
    · exact .inl hn
    · exact .inr (weightsAll_mem h n hn)

theorem cells36 : Tryz.prog.cellsOf 36 = 6 := by kernel_rfl
theorem cells3 : Tryz.prog.cellsOf 3 = 1 := by kernel_rfl
theorem cells33 : Tryz.prog.cellsOf 33 = 1 := by kernel_rfl
theorem cells34 : Tryz.prog.cellsOf 34 = 1 := by kernel_rfl
theorem bytes3 : Tryz.prog.bytesOf 3 = 8 := by kernel_rfl
theorem add_none (b o k : Nat) : (⟨b, o, none⟩ : Addr).add k = ⟨b, o + k, none⟩ := by
  unfold Addr.add
  split
  · rename_i h; subst h; rfl
  · rfl

/-- One op of the script, as the memory holds it. -/
structure OpIs (w : World) (sb x : Nat) (r : Opr × Option Addr × Nat × Nat) : Prop where
  c0 : w.cell? ⟨sb, x, none⟩ = some (.int .i64 (r.1.K))
  c1 : w.cell? ⟨sb, x + 1, none⟩ = some (.int .i64 (r.1.A))
  c2 : w.cell? ⟨sb, x + 2, none⟩ = some (.int .i64 (r.1.B))
  c3 : w.cell? ⟨sb, x + 3, none⟩ = some (.int .i64 (r.1.C))
  c4 : w.cell? ⟨sb, x + 4, none⟩ = some (.int .i64 (r.1.D))
  c5 : w.cell? ⟨sb, x + 5, none⟩ = some (.slice r.2.1 r.2.2.1 r.2.2.2)
  hC : -9223372036854775808 ≤ r.1.C ∧ r.1.C ≤ 9223372036854775807
  hA : -9223372036854775808 ≤ r.1.A ∧ r.1.A ≤ 9223372036854775807
  hB : -9223372036854775808 ≤ r.1.B ∧ r.1.B ≤ 9223372036854775807
  hn : r.1.L.length = r.2.2.1
  hl : r.2.2.1 ≤ 4611686018427387904
  hrow : ∀ (j : Nat) (c : Int), r.1.L[j]? = some c → ∃ b a, r.2.1 = some ⟨b, a, none⟩ ∧ b < w.heap.size ∧ w.cell? ⟨b, a + j, none⟩ = some (.int .i64 (c))

section
variable {H : Type} {enc : TypeId × Value → H} {P : Program} {w : World} {base : Nat} {spare : Nat → Bool} {held : Bool}
theorem trod_struct6 {t : TypeId} {f0 f1 f2 f3 f4 f5 : Field} {fuel : Nat} {cs : List Value} {x : DataW H × List MemPlace} (ht : P.underlying t = some (.struct #[f0, f1, f2, f3, f4, f5])) (h : DataW.trod enc P w base spare held fuel t cs = some x) :
    ∃ y0 y1 y2 y3 y4 y5 n, x = (.agg [y0.1, y1.1, y2.1, y3.1, y4.1, y5.1], y0.2 ++ (y1.2 ++ (y2.2 ++ (y3.2 ++ (y4.2 ++ y5.2))))) ∧ cs.length = P.cellsOf t ∧ DataW.trod enc P w base spare held n f0.type ((cs.drop f0.offset).take (P.cellsOf f0.type)) = some y0 ∧
      DataW.trod enc P w base spare held n f1.type ((cs.drop f1.offset).take (P.cellsOf f1.type)) = some y1 ∧ DataW.trod enc P w base spare held n f2.type ((cs.drop f2.offset).take (P.cellsOf f2.type)) = some y2 ∧
      DataW.trod enc P w base spare held n f3.type ((cs.drop f3.offset).take (P.cellsOf f3.type)) = some y3 ∧ DataW.trod enc P w base spare held n f4.type ((cs.drop f4.offset).take (P.cellsOf f4.type)) = some y4 ∧
      DataW.trod enc P w base spare held n f5.type ((cs.drop f5.offset).take (P.cellsOf f5.type)) = some y5 := by
  obtain ⟨xs, n, _, rfl, hl, hlen, hf⟩ := DataW.trod_struct ht h
  match xs, hlen with
  | [y0, y1, y2, y3, y4, y5], _ => exact ⟨y0, y1, y2, y3, y4, y5, n, by simp, hl, by simpa using hf 0 f0 rfl, by simpa using hf 1 f1 rfl, by simpa using hf 2 f2 rfl, by simpa using hf 3 f3 rfl, by simpa using hf 4 f4 rfl, by simpa using hf 5 f5 rfl⟩
end

variable {H : Type} {enc : TypeId × Value → H}

theorem op_open {W : World} {n sb x : Nat} {cs : List Value} {d : DataW H} {pl : List MemPlace} (hcs : W.cells? 0 ⟨sb, x, none⟩ 6 = some cs)
    (h : DataW.trod enc Tryz.prog W 0 (fun _ => true) true n 36 cs = some (d, pl)) (hsz : ∀ x ∈ d.weights Tryz.prog 36, x ≤ reachBytes) : ∃ r, OpIs W sb x r := by
  obtain ⟨_, hl, hc⟩ := World.cells?_some hcs
  obtain ⟨y0, y1, y2, y3, y4, y5, m, hx, _, h0, h1, h2, h3, h4, h5⟩ := trod_struct6 Tryz.underlying36 h
  simp only [cells33, cells3, cells34] at h0 h1 h2 h3 h4 h5
  obtain ⟨rfl, rfl⟩ := Prod.mk.inj hx
  match cs, hl with
  | [c0, c1, c2, c3, c4, c5], _ =>
  simp only [List.drop_zero, List.drop_succ_cons, List.take_succ_cons, List.take_zero] at h0 h1 h2 h3 h4 h5
  obtain ⟨k0, e0, _, _⟩ := DataW.trod_int Tryz.underlying33 h0
  obtain ⟨k1, e1, _, wf1⟩ := DataW.trod_int Tryz.underlying3 h1
  obtain ⟨k2, e2, _, wf2⟩ := DataW.trod_int Tryz.underlying3 h2
  obtain ⟨k3, e3, _, wf3⟩ := DataW.trod_int Tryz.underlying3 h3
  obtain ⟨k4, e4, _, _⟩ := DataW.trod_int Tryz.underlying3 h4
  simp only [List.cons.injEq, and_true] at e0 e1 e2 e3 e4
  subst e0 e1 e2 e3 e4
  have g0 := hc 0 (by omega)
  have g1 := hc 1 (by omega)
  have g2 := hc 2 (by omega)
  have g3 := hc 3 (by omega)
  have g4 := hc 4 (by omega)
  have g5 := hc 5 (by omega)
  simp only [add_none, Nat.add_zero, List.getElem?_cons_zero, List.getElem?_cons_succ] at g0 g1 g2 g3 g4 g5
  have hC : -9223372036854775808 ≤ k3 ∧ k3 ≤ 9223372036854775807 := by
    simpa [Lit.wf, IntKind.min, IntKind.max, IntKind.signed, IntKind.bits] using wf3
  have hA : -9223372036854775808 ≤ k1 ∧ k1 ≤ 9223372036854775807 := by
    simpa [Lit.wf, IntKind.min, IntKind.max, IntKind.signed, IntKind.bits] using wf1
  have hB : -9223372036854775808 ≤ k2 ∧ k2 ≤ 9223372036854775807 := by
    simpa [Lit.wf, IntKind.min, IntKind.max, IntKind.signed, IntKind.bits] using wf2
  rcases open_ints Tryz.underlying34 Tryz.underlying3 cells3 h5 with ⟨e5, _⟩ | ⟨a, len, cap, zs, e5, _, hlc, hm, hzl, hy, hz, hwf⟩
  · simp only [List.cons.injEq, and_true] at e5
    subst e5
    exact ⟨⟨⟨k0, k1, k2, k3, k4, []⟩, none, 0, 0⟩, g0, g1, g2, g3, g4, g5, hC, hA, hB, rfl, by simp, fun j c hj => by simp at hj⟩
  · simp only [List.cons.injEq, and_true] at e5
    subst e5
    simp only [if_true] at hzl
    have hlen : len ≤ 4611686018427387904 := by
      have := hsz ((len + (cap - len)) * 8) (by
        rw [hy]
        simp [DataW.weights, DataW.weightsEach, Tryz.underlying36, Tryz.underlying34, bytes3, lits, hzl, Nat.min_eq_left hlc])
      simp only [reachBytes] at this
      omega
    refine ⟨⟨⟨k0, k1, k2, k3, k4, zs.take len⟩, some a, len, cap⟩, g0, g1, g2, g3, g4, g5, hC, hA, hB, by simp [hzl]; omega, hlen, fun j c hj => ?_⟩
    have hj' : j < len ∧ zs[j]? = some c := by
      have h1 : (zs.take len)[j]? = some c := hj
      rw [List.getElem?_take] at h1
      split at h1
      · rename_i h2; exact ⟨h2, h1⟩
      · cases h1
    have cj := hz j (by omega)
    rw [List.getD_eq_getElem?_getD, hj'.2] at cj
    obtain ⟨b, off, spot⟩ := a
    have c0 := hz 0 (by omega)
    have hs : spot = none := by simpa [Addr.add] using World.cell?_spot c0
    subst hs
    rw [add_none] at cj
    exact ⟨b, off, rfl, World.block_lt_of_cell? W ⟨b, off + j, none⟩ cj, cj⟩

theorem script_open {W : World} {v : Value} {d : DataW H} {ps : List MemPlace} (hv : ∃ a len cap, v = .slice a len cap)
    (h : DataW.Trod enc Tryz.prog W 0 (fun _ => true) true 22 v d ps) (hsz : ∀ x ∈ d.weights Tryz.prog 22, x ≤ reachBytes) :
    (∃ ao cap, v = .slice ao 0 cap) ∨ ∃ sb so n cap o lao llen lcap, v = .slice (some ⟨sb, so, none⟩) n cap ∧ n ≤ 9223372036854775807 ∧ Scr W sb so n o lao llen lcap := by
  obtain ⟨a', len', cap', rfl⟩ := hv
  obtain ⟨fuel, h⟩ := h
  simp only [Value.cells] at h
  rcases open_slice Tryz.underlying22 h with ⟨e, _⟩ | ⟨a, len, cap, m, n, D, Pl, e, _, hlc, hm, hmm, hx, hall⟩
  · simp only [List.cons.injEq, and_true, Value.slice.injEq] at e
    obtain ⟨rfl, rfl, rfl⟩ := e
    exact .inl ⟨_, _, rfl⟩
  · simp only [List.cons.injEq, and_true, Value.slice.injEq] at e
    obtain ⟨rfl, rfl, rfl⟩ := e
    simp only [if_true] at hmm
    subst hmm
    by_cases h0 : len' = 0
    · subst h0
      exact .inl ⟨_, _, rfl⟩
    right
    obtain ⟨rfl, _⟩ := Prod.mk.inj hx
    rw [cells36] at hall
    obtain ⟨sb, so, spot⟩ := a
    have hs : spot = none := by
      obtain ⟨cs, hcs, _⟩ := hall 0 (by omega)
      obtain ⟨_, hl, hc⟩ := World.cells?_some hcs
      have c0 := hc 0 (by omega)
      match cs, hl with
      | c :: _, _ => simpa [Addr.add] using World.cell?_spot c0
    subst hs
    simp only [add_none] at hall
    have hops : ∀ i, i < len' → ∃ r, OpIs W sb (so + i * 6) r := fun i hi => by
      obtain ⟨cs, hcs, ht⟩ := hall i (by omega)
      refine op_open hcs ht fun x hx => hsz x ?_
      simp only [DataW.weights, Tryz.underlying22, List.mem_cons, List.mem_append]
      exact .inr (.inl (weightsAll_mem (List.mem_map.2 ⟨i, List.mem_range.2 hi, rfl⟩) x hx))
    haveI : Inhabited Opr := ⟨⟨0, 0, 0, 0, 0, []⟩⟩
    obtain ⟨R, hR⟩ := choose_lt hops
    refine ⟨sb, so, len', m, fun i => (R i).1, fun i => (R i).2.1, fun i => (R i).2.2.1, fun i => (R i).2.2.2, rfl, ?_, ?_⟩
    · unfold maxLen at hm; omega
    · exact {
        hsb := World.block_lt_of_cell? W ⟨sb, so + 0 * 6, none⟩ (hR 0 (by omega)).c0
        cells := fun i hi => ⟨(hR i hi).c0, (hR i hi).c1, (hR i hi).c2, (hR i hi).c3, (hR i hi).c4, (hR i hi).c5⟩
        hC := fun i hi => (hR i hi).hC
        hA := fun i hi => (hR i hi).hA
        hB := fun i hi => (hR i hi).hB
        hn := fun i hi => (hR i hi).hn
        hlen := fun i hi => (hR i hi).hl
        hrow := fun i hi => (hR i hi).hrow }

theorem small_none (ao : Option Addr) (cap : Nat) (w : World) : Calls Tryz.prog 4 #[.slice ao 0 cap] w fun e w' => e = .returned (.bool true) ∧ w' = w := by
  go_enter Tryz.func4, Tryz.ntmps4
  go_wp2
  refine wp_loop_once ?_
  go_wp2
  go_ret
  exact ⟨rfl, rfl⟩
end Go.Proofs.Qxb6500717aGreat
