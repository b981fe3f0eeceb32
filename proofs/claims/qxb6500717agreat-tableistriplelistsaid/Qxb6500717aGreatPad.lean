/-
  A block that is filled from its beginning: append with room.
-/
import Derived.Test.Qxb6500717aGreatKept
import Derived.ArgAppend
import Derived.Deep.RegionLaw
namespace Go
open Go.RowKit

/-- Block g has k cells that may be written; the first of them hold vs. -/
structure Pad (w : World) (g k : Nat) (vs : List Value) : Prop where
  lt : g < w.heap.size
  has : ∀ j, j < k → (w.cell? ⟨g, j, none⟩).isSome = true
  fz : ∀ j, j < k → w.frozen? ⟨g, j, none⟩ = false
  is : ∀ (j : Nat) u, vs[j]? = some u → w.cell? ⟨g, j, none⟩ = some u
  len : vs.length ≤ k

section
variable {w w' : World} {g k : Nat} {vs : List Value}
theorem Pad.of_block (h : Pad w g k vs) (hs : w.heap.size ≤ w'.heap.size) (hb : w'.heap[g]? = w.heap[g]?) : Pad w' g k vs :=
  ⟨Nat.lt_of_lt_of_le h.lt hs, fun j hj => by rw [World.cell?_of_block hb]; exact h.has j hj, fun j hj => by
    have := h.fz j hj
    simp only [World.frozen?] at this ⊢
    rw [hb]; exact this, fun j u hu => by rw [World.cell?_of_block hb]; exact h.is j u hu, h.len⟩
theorem Pad.kept {b : Nat} (h : Pad w g k vs) (hk : KeptBut b w w') (hne : g ≠ b) : Pad w' g k vs := h.of_block hk.size (hk.block g h.lt hne)
theorem Pad.below (h : Pad w g k vs) (hb : Below w.heap.size w w') : Pad w' g k vs := h.of_block hb.size (hb.block g h.lt)
theorem setCells_size (b : Nat) : ∀ (vs : List Value) (o : Nat) (w : World), (w.setCells b o vs).heap.size = w.heap.size := by
  intro vs
  induction vs with
  | nil => intros; rfl
  | cons v r ih => intro o w; rw [World.setCells, ih]; simp [World.setCell]
theorem setCells_kept (b : Nat) : ∀ (vs : List Value) (o : Nat) (w : World), KeptBut b w (w.setCells b o vs) := by
  intro vs
  induction vs with
  | nil => intro o w; exact KeptBut.refl b w
  | cons v r ih => intro o w; exact KeptBut.trans ((KeptBut.refl b w).set (Or.inl rfl) v) (ih _ _)
theorem Pad.push (h : Pad w g k vs) (news : List Value) (hn : vs.length + news.length ≤ k) : Pad (w.setCells g vs.length news) g k (vs ++ news) := by
  have hh : ∀ j, j < news.length → (w.cell? ⟨g, vs.length + j, none⟩).isSome = true := fun j hj => h.has _ (by omega)
  have hin := World.cell?_setCells_in g news vs.length w hh
  refine ⟨by rw [setCells_size]; exact h.lt, fun j hj => ?_, fun j hj => by rw [World.frozen?_setCells]; exact h.fz j hj, fun j u hu => ?_, by simp; omega⟩
  · by_cases hi : vs.length ≤ j ∧ j < vs.length + news.length
    · have := hin (j - vs.length) (by omega)
      rw [show vs.length + (j - vs.length) = j by omega] at this
      rw [this]; rfl
    · rw [World.cell?_setCells_out g news vs.length w _ (fun _ _ => by simp; omega)]
      exact h.has j hj
  · by_cases hi : j < vs.length
    · rw [World.cell?_setCells_out g news vs.length w _ (fun _ _ => by simp; omega)]
      rw [List.getElem?_append_left hi] at hu
      exact h.is j u hu
    · rw [List.getElem?_append_right (by omega)] at hu
      obtain ⟨hl, he⟩ := List.getElem?_eq_some_iff.1 hu
      have := hin (j - vs.length) hl
      rw [show vs.length + (j - vs.length) = j by omega] at this
      rw [this, ← he]
end

section
variable {P : Program}
/-- 'append(s, x..)' with room. -/
theorem wp_pad {w : World} {ops : Array Oper} {rest : List Oper} {o : Oper} {a : Act} {Q : Exit → Act → World → Prop} (hgd : o.guard = none) (s x : Operand) (t : TypeId)
    (ho : o.op = .call { callee := .builtin .append, args := #[s, x], argTypes := #[t, t] })
    (e : TypeId) (z : Value) (size bytes : Nat) (ht : P.underlying t = some (.slice e)) (hinfo : (P.info? e).map (fun i => (i.zero, i.size, i.bytes)) = some (some z, size, bytes))
    (g n cap k : Nat) (vs : List Value) (hs : a.eval s = .slice (some ⟨g, 0, none⟩) n cap) (hpad : Pad w g k vs) (hvs : vs.length = n * size)
    (b2 o2 m c : Nat) (news : List Value) (hx : a.eval x = .slice (some ⟨b2, o2, none⟩) m c) (hl : news.length = m * size) (hnews : ∀ j u, news[j]? = some u → w.cell? ⟨b2, o2 + j, none⟩ = some u) (h1 : ∀ u ∈ news, u.oneCell' = true)
    (hroom : n + m ≤ cap) (hk : (n + m) * size ≤ k)
    (h : ∀ w', Pad w' g k (vs ++ news) → KeptBut g w w' → w'.heap.size = w.heap.size → wpList P ops Q rest (a.put o.dst (.slice (some ⟨g, 0, none⟩) (n + m) cap)) w') : wpList P ops Q (o :: rest) a w := by
  obtain ⟨i, hi, hz0, hz1, hz2⟩ := info_parts hinfo
  have hsum : vs.length + news.length ≤ k := by rw [hvs, hl, ← Nat.add_mul]; exact hk
  have hrun := run_append_room_cells (P := P) w t o.type e i ht hi g 0 n cap ⟨b2, o2, none⟩ m c news (by rw [hz1]; exact hl) (fun j u hj => by rw [Addr.add_lit]; exact hnews j u hj) h1 hroom
    (fun j hj => by rw [hz1, Nat.zero_add, ← hvs]; exact hpad.has _ (by omega)) (fun j hj => by rw [hz1, Nat.zero_add, ← hvs]; exact hpad.fz _ (by omega))
  rw [hz1, Nat.zero_add, ← hvs] at hrun
  refine wpList_plain hgd fun K hK' => ?_
  unfold Oper.wp
  simp [execOp, ho, resolve, invoke, builtin, hs, hx, hrun, Result.andThen]
  refine hK' _ _ ?_
  exact h _ (hpad.push news hsum) (setCells_kept g news _ w) (setCells_size g news _ w)
/-- The same as one step of a region that draws its order. -/
theorem step_pad {w : World} {ops : Array Oper} {o : Oper} {a : Act} {K : Act → World → Prop} {Q : Exit → Act → World → Prop} {E : Prop} (hgd : o.guard = none) (s x : Operand) (t : TypeId)
    (ho : o.op = .call { callee := .builtin .append, args := #[s, x], argTypes := #[t, t] })
    (e : TypeId) (z : Value) (size bytes : Nat) (ht : P.underlying t = some (.slice e)) (hinfo : (P.info? e).map (fun i => (i.zero, i.size, i.bytes)) = some (some z, size, bytes))
    (g n cap k : Nat) (vs : List Value) (hs : a.eval s = .slice (some ⟨g, 0, none⟩) n cap) (hpad : Pad w g k vs) (hvs : vs.length = n * size)
    (b2 o2 m c : Nat) (news : List Value) (hx : a.eval x = .slice (some ⟨b2, o2, none⟩) m c) (hl : news.length = m * size) (hnews : ∀ j u, news[j]? = some u → w.cell? ⟨b2, o2 + j, none⟩ = some u) (h1 : ∀ u ∈ news, u.oneCell' = true)
    (hroom : n + m ≤ cap) (hk : (n + m) * size ≤ k)
    (h : ∀ w', Pad w' g k (vs ++ news) → KeptBut g w w' → w'.heap.size = w.heap.size → K (a.put o.dst (.slice (some ⟨g, 0, none⟩) (n + m) cap)) w') : if Region.wanted o (yielded ops a.tmps) = true then Oper.wp P o a w K Q else E := by
  obtain ⟨i, hi, hz0, hz1, hz2⟩ := info_parts hinfo
  have hsum : vs.length + news.length ≤ k := by rw [hvs, hl, ← Nat.add_mul]; exact hk
  refine step_append_room hgd s x t ho e i size ht hi hz1 g 0 n cap hs ⟨b2, o2, none⟩ m c news hx hl (fun j u hj => by rw [Addr.add_lit]; exact hnews j u hj) h1 hroom
    (fun j hj => by rw [Nat.zero_add, ← hvs]; exact ⟨hpad.has _ (by omega), hpad.fz _ (by omega)⟩) ?_
  rw [Nat.zero_add, ← hvs]
  exact h _ (hpad.push news hsum) (setCells_kept g news _ w) (setCells_size g news _ w)
end
end Go
