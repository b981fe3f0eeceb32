/-
  search: the walk.
-/
import Derived.Test.Qxb6500715aFmtBfs
import Derived.Test.Qxb6500715aFmtNbr
namespace Go
open Go.RowKit
/-- 'append' of one one-cell element, where there is room. -/
theorem wp_room {P : Program} {w : World} {ops : Array Oper} {Q : Exit → Act → World → Prop} {rest : List Oper} {o : Oper} {a : Act} (hgd : o.guard = none) (s x : Operand) (t : TypeId)
    (ho : o.op = .call { callee := .builtin .append, args := #[s, x], argTypes := #[t, t] })
    (e : TypeId) (z : Value) (bytes : Nat) (ht : P.underlying t = some (.slice e)) (hinfo : (P.info? e).map (fun i => (i.zero, i.size, i.bytes)) = some (some z, 1, bytes))
    (g n cap : Nat) (cur : Array Value) (hs : a.eval s = .slice (some ⟨g, 0, none⟩) n cap) (hg : w.heap[g]? = some (.cells cur e)) (hn : n < cap) (hc : n < cur.size)
    (b2 c : Nat) (u : Value) (hx : a.eval x = .slice (some ⟨b2, 0, none⟩) 1 c) (hu : w.cell? ⟨b2, 0, none⟩ = some u) (h1 : u.oneCell' = true)
    (h : wpList P ops Q rest (a.put o.dst (.slice (some ⟨g, 0, none⟩) (n + 1) cap)) (w.setCell ⟨g, n, none⟩ u)) : wpList P ops Q (o :: rest) a w := by
  have := mid_room (P := P) (ops := ops) (Q := Q) (S := fun _ => True) (k := 0) (rest := rest) hgd s x t ho e z bytes ht hinfo g n cap cur hs hg hn hc b2 c u hx hu h1 ⟨trivial, wpMid_zero h⟩
  unfold wpMid at this
  rw [if_pos (by simp [Region.wanted, hgd])] at this
  rcases this with h2 | h2
  · refine wpList_plain hgd fun K hK => ?_
    refine Oper.wp_mono (fun a' w' h3 => hK _ _ ?_) h2
    cases rest with
    | nil => exact h3.2
    | cons o l => exact h3.2
  · unfold wpList; rw [if_pos (by simp [Region.wanted, hgd])]; exact Or.inr h2

structure Kept2 (b1 b2 : Nat) (w w' : World) : Prop where
  os : w'.os = w.os
  tape : w'.tape = w.tape
  output : w'.output = w.output
  size : w.heap.size ≤ w'.heap.size
  block : ∀ k, k < w.heap.size → k ≠ b1 → k ≠ b2 → w'.heap[k]? = w.heap[k]?
section
variable {b1 b2 : Nat} {w w1 w2 : World}
theorem Kept2.refl (b1 b2 : Nat) (w : World) : Kept2 b1 b2 w w := ⟨rfl, rfl, rfl, Nat.le_refl _, fun _ _ _ _ => rfl⟩
theorem Kept2.below (h : Kept2 b1 b2 w w1) (k : Below w1.heap.size w1 w2) : Kept2 b1 b2 w w2 :=
  ⟨k.os.trans h.os, k.tape.trans h.tape, k.output.trans h.output, Nat.le_trans h.size k.size, fun i hi n1 n2 => (k.block i (by have := h.size; omega)).trans (h.block i hi n1 n2)⟩
theorem Kept2.al (h : Kept2 b1 b2 w w1) (o : Obj) : Kept2 b1 b2 w (w1.alloc o) := h.below ((Below.rf w1).al o)
theorem Kept2.ex (h : Kept2 b1 b2 w w1) (z : World) : Kept2 b1 b2 w (w1.ext z) := h.below (World.below_ext w1 z)
theorem Kept2.set (h : Kept2 b1 b2 w w1) {a : Addr} (ha : a.block = b1 ∨ a.block = b2) (v : Value) : Kept2 b1 b2 w (w1.setCell a v) :=
  ⟨h.os, h.tape, h.output, by simpa [World.setCell] using h.size, fun k hk n1 n2 => (Below.heap_setCell _ _ _ _ (by omega)).trans (h.block k hk n1 n2)⟩
theorem Kept2.trans (h : Kept2 b1 b2 w w1) (k : Kept2 b1 b2 w1 w2) : Kept2 b1 b2 w w2 :=
  ⟨k.os.trans h.os, k.tape.trans h.tape, k.output.trans h.output, Nat.le_trans h.size k.size, fun i hi n1 n2 => (k.block i (by have := h.size; omega) n1 n2).trans (h.block i hi n1 n2)⟩
end
end Go
namespace Go.Proofs.Qxb6500715aFmt
open Go.RowKit
set_option linter.unusedSimpArgs false
set_option linter.unusedVariables false

/-- All blocks of a floor lie below B. -/
structure Under (F : FP) (sb cb B : Nat) : Prop where
  fb : F.fb < B
  kb : F.kb < B
  ib : F.ib < B
  qb : F.qb < B
  ab : F.ab < B
  ob : F.ob < B
  pb : F.pb < B
  sb : sb < B
  cb : cb < B

theorem FlN.under {w w' : World} {F : FP} {sb cb B : Nat} (h : FlN w F) (hu : Under F sb cb B) (hs : w.heap.size ≤ w'.heap.size) (hb : ∀ k, k < B → w'.heap[k]? = w.heap[k]?) : FlN w' F := by
  have hn := h.num
  obtain ⟨l1, l2, l3, l4⟩ := hn.lt
  have c : ∀ k o, k < B → w'.cell? ⟨k, o, none⟩ = w.cell? ⟨k, o, none⟩ := fun k o hk => World.cell?_of_block (hb k hk)
  exact { hdr := h.hdr.of hs (fun j _ => c _ _ hu.fb) (fun j => World.frozen?_of_block (hb _ hu.fb)), lay := h.lay, hL := h.hL, hLb := h.hLb, hWb := h.hWb, k9 := (c _ _ hu.fb).trans h.k9, hkb := ⟨by have := h.hkb.1; omega, h.hkb.2⟩,
          kds := fun i hi => (c _ _ hu.kb).trans (h.kds i hi), kind := h.kind, ne := h.ne, hpb := ⟨by have := h.hpb.1; omega, h.hpb.2⟩,
          pc0 := fun i hi => (c _ _ hu.pb).trans (h.pc0 i hi), pc1 := fun i hi => (c _ _ hu.pb).trans (h.pc1 i hi),
          num := { hN := hn.hN, i10 := (c _ _ hu.fb).trans hn.i10, i11 := (c _ _ hu.fb).trans hn.i11, i12 := (c _ _ hu.fb).trans hn.i12, i13 := (c _ _ hu.fb).trans hn.i13, i14 := (c _ _ hu.fb).trans hn.i14,
                   lt := ⟨by omega, by omega, by omega, by omega⟩, qc := hn.qc, ids := fun i hi => (c _ _ hu.ib).trans (hn.ids i hi), pos0 := fun j hj => (c _ _ hu.qb).trans (hn.pos0 j hj), pos1 := fun j hj => (c _ _ hu.qb).trans (hn.pos1 j hj),
                   park := fun r hr => (c _ _ hu.ab).trans (hn.park r hr), own := fun j hj => (c _ _ hu.ob).trans (hn.own j hj) } }
theorem Lnk.under {w w' : World} {F : FP} {sb cb B : Nat} (h : Lnk w F sb cb) (hu : Under F sb cb B) (hs : w.heap.size ≤ w'.heap.size) (hb : ∀ k, k < B → w'.heap[k]? = w.heap[k]?) : Lnk w' F sb cb := by
  have c : ∀ k o, k < B → w'.cell? ⟨k, o, none⟩ = w.cell? ⟨k, o, none⟩ := fun k o hk => World.cell?_of_block (hb k hk)
  exact ⟨(c _ _ hu.fb).trans h.k15, (c _ _ hu.fb).trans h.k16, Nat.lt_of_lt_of_le h.hfb hs, ⟨Nat.lt_of_lt_of_le h.lt.1 hs, Nat.lt_of_lt_of_le h.lt.2 hs⟩, fun j hj => (c _ _ hu.sb).trans (h.sv j hj), fun j x hx => (c _ _ hu.cb).trans (h.cv j x hx)⟩

/-- The search's memory. -/
structure SrAt (w wr : World) (N rb ro ub : Nat) (D0 : Array Value) (row : Nat → Int) (Q : List Nat) (D U : Array Value) : Prop where
  hD : wr.heap[rb]? = some (.cells D 115)
  ds : D.size = D0.size
  dv : ∀ c, c < N → D[ro + c]? = some (.int .i16 (row c))
  dout : ∀ i, (i < ro ∨ ro + N ≤ i) → D[i]? = D0[i]?
  hU : wr.heap[ub]? = some (.cells U 50)
  us : U.size = N
  uv : ∀ (j x : Nat), Q[j]? = some x → U[j]? = some (.int .i64 (x))
  kept : Kept2 rb ub w wr

section
variable {w wr : World} {N rb ro ub : Nat} {D0 D U : Array Value} {row : Nat → Int} {Q : List Nat}

theorem SrAt.below (h : SrAt w wr N rb ro ub D0 row Q D U) {w' : World} (hb : Below wr.heap.size wr w') : SrAt w w' N rb ro ub D0 row Q D U :=
  ⟨(hb.block _ (Array.getElem?_eq_some_iff.1 h.hD).1).trans h.hD, h.ds, h.dv, h.dout, (hb.block _ (Array.getElem?_eq_some_iff.1 h.hU).1).trans h.hU, h.us, h.uv, h.kept.below hb⟩
theorem SrAt.ex (h : SrAt w wr N rb ro ub D0 row Q D U) (z : World) : SrAt w (wr.ext z) N rb ro ub D0 row Q D U := h.below (World.below_ext wr z)
theorem SrAt.al (h : SrAt w wr N rb ro ub D0 row Q D U) (o : Obj) : SrAt w (wr.alloc o) N rb ro ub D0 row Q D U := h.below ((Below.rf wr).al o)

theorem SrAt.setRow (h : SrAt w wr N rb ro ub D0 row Q D U) (hne : rb ≠ ub) (b : Nat) (x : Int) (hb : b < N) (hr : ro + N ≤ D0.size) :
    SrAt w (wr.setCell ⟨rb, ro + b, none⟩ (.int .i16 x)) N rb ro ub D0 (upd row b x) Q (D.setIfInBounds (ro + b) (.int .i16 x)) U := by
  refine ⟨heap_setCell_same wr _ _ D 115 _ h.hD, by simpa using h.ds, fun c hc => ?_, fun i hi => ?_, ?_, h.us, h.uv, h.kept.set (Or.inl rfl) _⟩
  · rw [Array.getElem?_setIfInBounds]
    simp only [upd]
    by_cases hcb : c = b
    · subst hcb; rw [if_pos rfl, if_pos (by rw [h.ds]; omega), if_pos rfl]
    · rw [if_neg (by omega), if_neg hcb]; exact h.dv c hc
  · rw [Array.getElem?_setIfInBounds, if_neg (by omega)]; exact h.dout i hi
  · rw [Below.heap_setCell _ _ _ _ (by simpa using Ne.symm hne)]; exact h.hU

theorem SrAt.push (h : SrAt w wr N rb ro ub D0 row Q D U) (hne : rb ≠ ub) (b : Nat) (hq : Q.length < N) :
    SrAt w (wr.setCell ⟨ub, Q.length, none⟩ (.int .i64 (b))) N rb ro ub D0 row (Q ++ [b]) D (U.setIfInBounds Q.length (.int .i64 (b))) := by
  refine ⟨?_, h.ds, h.dv, h.dout, heap_setCell_same wr _ _ U 50 _ h.hU, by simpa using h.us, fun j x hx => ?_, h.kept.set (Or.inr rfl) _⟩
  · rw [Below.heap_setCell _ _ _ _ (by simpa using hne)]; exact h.hD
  · rw [Array.getElem?_setIfInBounds]
    by_cases hj : Q.length = j
    · subst hj
      rw [List.getElem?_append_right (Nat.le_refl _)] at hx
      simp at hx
      rw [if_pos rfl, if_pos (by rw [h.us]; omega), hx]
    · rw [if_neg hj]
      have hlt : j < Q.length := by
        have := (List.getElem?_eq_some_iff.1 hx).1
        simp at this; omega
      rw [List.getElem?_append_left hlt] at hx
      exact h.uv j x hx
end
end Go.Proofs.Qxb6500715aFmt
