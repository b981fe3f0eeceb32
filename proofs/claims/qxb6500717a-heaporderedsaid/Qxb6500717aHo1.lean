/-
  HeapOrdered: what the law needs beside the walks: the sorted copy against the heap, the copy itself, heap and model side by side.
-/
import Derived.Test.Qxb6500717aSo9
import Derived.Test.Qxb6500717aHy
import Derived.Test.Qxb6500717aLaw3
import Derived.Laws.AppendOwnNone
namespace Go.Proofs.Qxb6500717a
open Go.RowKit
set_option linter.unusedSimpArgs false
set_option linter.unusedVariables false
set_option maxRecDepth 20000
set_option maxHeartbeats 4000000
theorem at0_arr (d : Array Ent) (k : Nat) (h : k < d.size) : at0 d.toList k = d[k]! := by
  simp [at0, List.getD_eq_getElem?_getD, h]
theorem at0_drop (D : List Ent) (i j : Nat) : at0 (D.drop i) j = at0 D (i + j) := by
  simp [at0, List.getD_eq_getElem?_getD, List.getElem?_drop]
theorem RH.sorted {L H : List Ent} {nx px : Nat} (h : RH L nx H px) {d' : Array Ent} (hp : Sort.PermIn 0 H.toArray.size H.toArray d') (hs : Sort.SortedIn ltE 0 H.toArray.size d') :
    RH L nx d'.toList px ∧ d'.size = H.length ∧ ∀ i, i < H.length → isLeast (d'.toList.drop i) 0 := by
  obtain ⟨e1, -, e3⟩ := hp
  have e2 : d'.size = H.length := by simpa using e1
  have e4 : d'.toList.Perm H := by
    have a1 : d'.extract 0 H.toArray.size = d' := by rw [← e1]; exact Array.extract_size
    rw [a1, Array.extract_size] at e3
    exact e3
  refine ⟨⟨h.nx, h.pm.trans e4.symm, fun x hx => h.sq x (e4.mem_iff.1 hx), ?_⟩, e2, fun i hi => ⟨by simp; omega, fun j hj => ?_⟩⟩
  · exact (List.Perm.pairwise_iff (fun hh => fun e => hh e.symm) e4).2 h.ds
  · simp at hj
    rw [at0_drop, at0_drop, at0_arr _ _ (by omega), at0_arr _ _ (by omega), Nat.add_zero]
    by_cases h0 : j = 0
    · subst h0; exact lt_irrefl _
    · have := hs i (i + j) (Nat.zero_le _) (by omega) (by simp; omega)
      intro hh
      have := (bef_lt _ _).2 hh
      unfold ltE at *
      simp_all
theorem holds_hx {w : World} {b cap : Nat} {H : List Ent} (h : HX w b cap H) : Sort.HoldsK encE 4 w b 0 H.toArray := by
  intro t ht
  simp at ht
  rw [Sort.get_flatK _ _ _ _ (by simpa using ht)]
  have hi : t / 4 < H.length := by omega
  obtain ⟨a0, a1, a2, a3, b0, b1, b2, b3⟩ := h.at hi
  have e : (H.toArray)[t / 4]! = at0 H (t / 4) := (at0_arr H.toArray (t / 4) (by simpa using hi)).symm
  rw [e, Nat.zero_add]
  rcases (by omega : t % 4 = 0 ∨ t % 4 = 1 ∨ t % 4 = 2 ∨ t % 4 = 3) with h4 | h4 | h4 | h4
  · have e4 : t = t / 4 * 4 := by omega
    rw [h4]
    conv => lhs; lhs; rw [e4]
    conv => rhs; lhs; rw [e4]
    exact ⟨a0, b0⟩
  · have e4 : t = t / 4 * 4 + 1 := by omega
    rw [h4]
    conv => lhs; lhs; rw [e4]
    conv => rhs; lhs; rw [e4]
    exact ⟨a1, b1⟩
  · have e4 : t = t / 4 * 4 + 2 := by omega
    rw [h4]
    conv => lhs; lhs; rw [e4]
    conv => rhs; lhs; rw [e4]
    exact ⟨a2, b2⟩
  · have e4 : t = t / 4 * 4 + 3 := by omega
    rw [h4]
    conv => lhs; lhs; rw [e4]
    conv => rhs; lhs; rw [e4]
    exact ⟨a3, b3⟩
/-- A copy of a list of nodes. -/
def CpAt (w : World) (base : Nat) (p : Option Addr) (cap : Nat) (H : List Ent) : Prop := (p = none ∧ H = []) ∨ ∃ b, p = some ⟨b, 0, none⟩ ∧ base ≤ b ∧ HX w b cap H
theorem nil_own4 (w : World) (base : Nat) (e : TypeId) : w.ownsRow base e 4 (.slice none 0 0) 0 [] := ⟨rfl, Or.inl ⟨rfl, rfl⟩⟩
theorem cp_ents {w : World} {ops : Array Oper} {rest : List Oper} {o : Oper} {a : Act} {Q : Exit → Act → World → Prop} (hgd : o.guard = none) (s x : Operand)
    (ho : o.op = .call { callee := .builtin .append, args := #[s, x], argTypes := #[29, 29] })
    (lab : Nat → Nat) (v : Value) (H : List Ent) (hs : a.eval s = .slice none 0 0) (hx : a.eval x = v) (hh : HpV w lab v H) (hl : H.length ≤ 1000000)
    (h : ∀ p cap' w', CpAt w' w.heap.size p cap' H → Below w.heap.size w w' → wpList Try.prog ops Q rest (a.put o.dst (.slice p H.length cap')) w') : wpList Try.prog ops Q (o :: rest) a w := by
  obtain ⟨ao, cap, hv, hlc, hc⟩ := hh
  obtain ⟨i, hi, hz0, hz1, hz2⟩ := info_parts (P := Try.prog) (e := 62) (z := .agg #[.int .i64 (0), .int .i64 (0), .int .i64 (0), .int .i64 (0)]) (size := 4) (bytes := 32) (by kernel_rfl)
  have hel := erow_len H
  rcases hc with ⟨rfl, rfl⟩ | ⟨b, rfl, hlab, hpad⟩
  · have hn0 : H = [] := List.length_eq_zero_iff.1 (by omega)
    subst hn0
    refine wpList_append_own_none hgd s x 29 ho w.heap.size 62 i 4 Try.underlying29 hi _ 0 [] hs (nil_own4 _ _ _) (by rw [hx, hv]; rfl) ?_
    exact h _ _ _ (Or.inl ⟨rfl, rfl⟩) (Below.rf _)
  · refine wpList_append_own w hgd s x 29 ho w.heap.size 62 i (.agg #[.int .i64 (0), .int .i64 (0), .int .i64 (0), .int .i64 (0)]) 4 32 Try.underlying29 hi hz0 hz1 hz2 rfl (by decide) _ 0 [] hs (nil_own4 _ _ _) ⟨b, 0, none⟩ H.length cap (erow H) (by rw [hx, hv]) (by omega) (fun j u hj => by rw [Addr.add_lit, Nat.zero_add]; exact hpad.is j u hj) ?_ (by simp only [maxLen]; omega) (by omega) (Nat.le_refl _) fun v' w' h2 h3 _ => ?_
    · intro u hu
      simp only [erow, List.mem_flatMap] at hu
      obtain ⟨y, -, hy⟩ := hu
      simp at hy
      rcases hy with rfl | rfl | rfl | rfl <;> rfl
    have hB : Below w.heap.size w w' := (Below.refl w.heap.size w).grown h3 (Nat.le_refl _) (fun k hk => by cases hk)
    rw [Nat.zero_add, List.nil_append] at h2
    obtain ⟨h4, h5⟩ := h2
    rcases h5 with ⟨rfl, h6⟩ | ⟨g, cap2, cur, hv2, hg, hh, hnc, _, hsz2, ht2⟩
    · have hn0 : H = [] := List.length_eq_zero_iff.1 h6
      subst hn0
      exact h _ _ _ (Or.inl ⟨rfl, rfl⟩) hB
    · rw [hv2]
      refine h _ _ _ (Or.inr ⟨g, rfl, hg, ⟨(Array.getElem?_eq_some_iff.1 hh).1, fun j hj => ?_, fun j hj => ?_, fun j u hu => ?_, by omega⟩⟩) hB
      · rw [cell_of_row _ _ j cur 62 (0, 0) hh, Array.getElem?_eq_getElem (by omega)]; rfl
      · unfold World.frozen?; simp only [hh]; simp
      · rw [cell_of_row _ _ j cur 62 (0, 0) hh]
        rw [← ht2, List.getElem?_take] at hu
        split at hu
        · simpa using hu
        · cases hu
theorem eq56 (w : World) (a b c : Int) : (Op.equalIn 10000 56 (.agg #[.int .i64 (a), .int .i64 (b), .int .i64 (c)]) (.agg #[.int .i64 (a), .int .i64 (b), .int .i64 (c)])).run Try.prog w = .ok true w := by
  rw [run_equalIn_struct w 9999 56 _ _ (by kernel_rfl) (by kernel_rfl)]
  have e : ∀ u v : Int, (Op.equalIn 9999 3 (.int .i64 (u)) (.int .i64 (v))).run Try.prog w = .ok (u == v) w := fun u v => run_equalIn_int w 9998 3 .i64 .i64 u v Try.underlying3
  have hf : (Try.prog.fieldsOf 56).toList = (Try.prog.fieldsOf 56).toList := rfl
  conv at hf => rhs; whnf
  rw [hf]
  simp [Op.eqFields, e, part, go_sem]
/-- Heap and model side by side. -/
structure Mid (w0 wr : World) (lab : Nat → Nat) (d m k : Nat) (L : List Ent) (nx : Nat) (M : ModS) : Prop where
  dy : DY wr lab d (.pointer none) (.pointer none) L nx
  md : ModX wr lab m k M
  bl : Below w0.heap.size w0 wr
  l0 : ∀ j, j < w0.heap.size → lab j = 0
  hm : w0.heap.size ≤ m
section
variable {w0 wr w' : World} {lab lab' : Nat → Nat} {d m k nx nx' : Nat} {L L' : List Ent} {M M' : ModS}
theorem Mid.below (h : Mid w0 wr lab d m k L nx M) (hb : Below wr.heap.size wr w') : Mid w0 w' lab d m k L nx M :=
  ⟨h.dy.below hb, h.md.below hb, h.bl.trans (hb.mono h.bl.size), h.l0, h.hm⟩
theorem Mid.kept (h : Mid w0 wr lab d m k L nx M) {A : Nat → Prop} (h0 : ¬ A 0) (hk : KeptL lab A wr w') : Below w0.heap.size w0 w' :=
  ⟨hk.os.trans h.bl.os, hk.tape.trans h.bl.tape, hk.output.trans h.bl.output, Nat.le_trans h.bl.size hk.size, fun j hj => by
    rw [hk.block j (Nat.lt_of_lt_of_le hj h.bl.size) (by rw [h.l0 j hj]; exact h0)]; exact h.bl.block j hj⟩
theorem Mid.hp (h : Mid w0 wr lab d m k L nx M) (hd : DY w' lab' d (.pointer none) (.pointer none) L' nx') (hl : ∀ j, j < wr.heap.size → lab' j = lab j) (hk : KeptL lab (fun x => x = 1 ∨ x = 2) wr w') :
    ∃ lab5, Mid w0 w' lab5 d m k L' nx' M ∧ ∀ j, j < wr.heap.size → lab5 j = lab j := by
  have e : ∀ j, j < w'.heap.size → (fun j => if j < w'.heap.size then lab' j else 0) j = lab' j := fun j hj => if_pos hj
  have e2 : ∀ j, j < wr.heap.size → (fun j => if j < w'.heap.size then lab' j else 0) j = lab j := fun j hj => (e j (Nat.lt_of_lt_of_le hj hk.size)).trans (hl j hj)
  refine ⟨fun j => if j < w'.heap.size then lab' j else 0, ⟨hd.of (Nat.le_refl _) e (fun _ _ _ => rfl), h.md.of hk.size e2 (fun j hj h30 => hk.block j hj (by omega)) (fun j hj => if_neg (by omega)), h.kept (by omega) hk, fun j hj => (e2 j (Nat.lt_of_lt_of_le hj h.bl.size)).trans (h.l0 j hj), h.hm⟩, e2⟩
theorem Mid.st (h : Mid w0 wr lab d m k L nx M) (hm : ModX w' lab' m (k + 1) M') (hl : ∀ j, j < wr.heap.size → lab' j = lab j) (hk : KeptL lab modL wr w') : Mid w0 w' lab' d m (k + 1) L nx M' :=
  ⟨h.dy.of hk.size hl (fun j hj ht => hk.block j hj (by unfold modL; omega)), hm, h.kept (by unfold modL; omega) hk, fun j hj => (hl j (Nat.lt_of_lt_of_le hj h.bl.size)).trans (h.l0 j hj), h.hm⟩
end
end Go.Proofs.Qxb6500717a
