/-
  Blocks by label, blocks by function, and lists that are appended to.
-/
import Derived.Test.Qxb6500716aMp
namespace Go.Proofs.Qxb6500716a
open Go.RowKit
set_option linter.unusedSimpArgs false
set_option linter.unusedVariables false

/-- Only blocks whose label A tells may have been written. -/
structure KeptL (lab : Nat → Nat) (A : Nat → Prop) (w w' : World) : Prop where
  os : w'.os = w.os
  tape : w'.tape = w.tape
  output : w'.output = w.output
  size : w.heap.size ≤ w'.heap.size
  block : ∀ k, k < w.heap.size → ¬ A (lab k) → w'.heap[k]? = w.heap[k]?

section
variable {lab lab' : Nat → Nat} {A B : Nat → Prop} {w w1 w2 : World}
theorem KeptL.refl (lab : Nat → Nat) (A : Nat → Prop) (w : World) : KeptL lab A w w := ⟨rfl, rfl, rfl, Nat.le_refl _, fun _ _ _ => rfl⟩
theorem KeptL.trans (h : KeptL lab A w w1) (k : KeptL lab A w1 w2) : KeptL lab A w w2 :=
  ⟨k.os.trans h.os, k.tape.trans h.tape, k.output.trans h.output, Nat.le_trans h.size k.size, fun i hi hb => (k.block i (Nat.lt_of_lt_of_le hi h.size) hb).trans (h.block i hi hb)⟩
/-- Behind a change of labels at new blocks. -/
theorem KeptL.trans' (h : KeptL lab A w w1) (k : KeptL lab' A w1 w2) (hl : ∀ i, i < w.heap.size → lab' i = lab i) : KeptL lab A w w2 :=
  ⟨k.os.trans h.os, k.tape.trans h.tape, k.output.trans h.output, Nat.le_trans h.size k.size, fun i hi hb => (k.block i (Nat.lt_of_lt_of_le hi h.size) (by rw [hl i hi]; exact hb)).trans (h.block i hi hb)⟩
theorem KeptL.mono (h : KeptL lab A w w1) (hAB : ∀ x, A x → B x) : KeptL lab B w w1 := ⟨h.os, h.tape, h.output, h.size, fun k hk hb => h.block k hk (fun ha => hb (hAB _ ha))⟩
theorem KeptL.of_below (h : Below w.heap.size w w1) : KeptL lab A w w1 := ⟨h.os, h.tape, h.output, h.size, fun k hk _ => h.block k hk⟩
theorem KeptL.of_but {b : Nat} (h : KeptBut b w w1) (hb : A (lab b)) : KeptL lab A w w1 := ⟨h.os, h.tape, h.output, h.size, fun k hk hn => h.block k hk (fun e => hn (e ▸ hb))⟩
theorem KeptL.of_grown {b : Nat} (h : w.grownBy w1 (some b)) (hb : A (lab b)) : KeptL lab A w w1 := ⟨h.os, h.tape, h.output, h.size, fun k hk hn => h.block k hk (fun e => hn (by cases e; exact hb))⟩
theorem KeptL.of_turned {b : Nat} (h : w.mapTurned w1 b) (hb : A (lab b)) : KeptL lab A w w1 := KeptL.of_grown h.grown hb
theorem KeptL.al (h : KeptL lab A w w1) (o : Obj) : KeptL lab A w (w1.alloc o) := h.trans (KeptL.of_below ((Below.rf w1).al o))
theorem KeptL.ex (h : KeptL lab A w w1) (z : World) : KeptL lab A w (w1.ext z) := h.trans (KeptL.of_below (World.below_ext w1 z))
theorem KeptL.drew (h : KeptL lab A w w1) : KeptL lab A w w1.drew := h.trans (KeptL.of_below (Below.rf w1).drew)
theorem KeptL.set (h : KeptL lab A w w1) {b i : Nat} (hb : A (lab b)) (v : Value) : KeptL lab A w (w1.setCell ⟨b, i, none⟩ v) :=
  h.trans (KeptL.of_but ((KeptBut.refl b w1).set (Or.inl rfl) v) hb)
/-- A store into a block that is new. -/
theorem KeptL.setN (h : KeptL lab A w w1) {b i : Nat} (hb : w.heap.size ≤ b) (v : Value) : KeptL lab A w (w1.setCell ⟨b, i, none⟩ v) :=
  ⟨h.os, h.tape, h.output, by simpa [World.setCell] using h.size, fun k hk hn => (Below.heap_setCell _ _ _ _ (by simp; omega)).trans (h.block k hk hn)⟩
theorem KeptL.cell (h : KeptL lab A w w1) {b : Nat} (i : Nat) (hlt : b < w.heap.size) (hne : ¬ A (lab b)) : w1.cell? ⟨b, i, none⟩ = w.cell? ⟨b, i, none⟩ := World.cell?_of_block (h.block b hlt hne)
theorem KeptL.frozen (h : KeptL lab A w w1) {b : Nat} (i : Nat) (hlt : b < w.heap.size) (hne : ¬ A (lab b)) : w1.frozen? ⟨b, i, none⟩ = w.frozen? ⟨b, i, none⟩ := World.frozen?_of_block (h.block b hlt hne)
/-- Nothing at all was written. -/
theorem KeptL.below (h : KeptL lab A w w1) (hn : ∀ k, k < w.heap.size → ¬ A (lab k)) : Below w.heap.size w w1 := ⟨h.os, h.tape, h.output, h.size, fun k hk => h.block k hk (hn k hk)⟩
end

/-- Block b has n cells that may be written, holding f. -/
structure Blk (w : World) (b n : Nat) (f : Nat → Value) : Prop where
  lt : b < w.heap.size
  is : ∀ i, i < n → w.cell? ⟨b, i, none⟩ = some (f i)
  fz : ∀ i, i < n → w.frozen? ⟨b, i, none⟩ = false

/-- f with v at i. -/
def upd {α : Type} (f : Nat → α) (i : Nat) (v : α) : Nat → α := fun j => if j = i then v else f j
theorem upd_at {α : Type} (f : Nat → α) (i : Nat) (v : α) : upd f i v i = v := by simp [upd]
theorem upd_ne {α : Type} (f : Nat → α) {i j : Nat} (v : α) (h : j ≠ i) : upd f i v j = f j := by simp [upd, h]

section
variable {w w' : World} {b n : Nat} {f : Nat → Value}
theorem Blk.of_block (h : Blk w b n f) (hs : w.heap.size ≤ w'.heap.size) (hb : w'.heap[b]? = w.heap[b]?) : Blk w' b n f :=
  ⟨Nat.lt_of_lt_of_le h.lt hs, fun i hi => by rw [World.cell?_of_block hb]; exact h.is i hi, fun i hi => by
    have := h.fz i hi
    simp only [World.frozen?] at this ⊢
    rw [hb]; exact this⟩
theorem Blk.below (h : Blk w b n f) (hb : Below w.heap.size w w') : Blk w' b n f := h.of_block hb.size (hb.block b h.lt)
theorem Blk.kept {c : Nat} (h : Blk w b n f) (hk : KeptBut c w w') (hne : b ≠ c) : Blk w' b n f := h.of_block hk.size (hk.block b h.lt hne)
theorem Blk.set (h : Blk w b n f) (i : Nat) (v : Value) (hi : i < n) : Blk (w.setCell ⟨b, i, none⟩ v) b n (upd f i v) := by
  refine ⟨by simpa using h.lt, fun j hj => ?_, fun j hj => by rw [World.frozen?_setCell]; exact h.fz j hj⟩
  by_cases hji : j = i
  · subst hji
    rw [upd_at]
    exact World.cell?_setCell_same _ _ _ (h.is j hj)
  · rw [upd_ne _ _ hji, World.cell?_setCell_other _ _ _ _ (fun e => hji (by have := congrArg Addr.off e; simpa using this.symm))]
    exact h.is j hj
theorem Blk.congr {g : Nat → Value} (h : Blk w b n f) (he : ∀ i, i < n → f i = g i) : Blk w b n g := ⟨h.lt, fun i hi => by rw [h.is i hi, he i hi], h.fz⟩
theorem Blk.keptL {lab : Nat → Nat} {A : Nat → Prop} (h : Blk w b n f) (hk : KeptL lab A w w') (hne : ¬ A (lab b)) : Blk w' b n f := h.of_block hk.size (hk.block b h.lt hne)
end

/-- A list in memory: n elements of sz cells each; vs: all the cells; its block bears the label tag. -/
structure LAt (w : World) (lab : Nat → Nat) (tag sz : Nat) (v : Value) (n : Nat) (vs : List Value) : Prop where
  len : vs.length = n * sz
  ex : ∃ (ao : Option Addr) (cap : Nat), v = .slice ao n cap ∧ n ≤ cap ∧ ((ao = none ∧ cap = 0) ∨ ∃ b, ao = some ⟨b, 0, none⟩ ∧ (lab b = tag ∧ 0 ≤ cap) ∧ Pad w b (sz * cap) vs)

section
variable {w w' : World} {lab lab' : Nat → Nat} {tag sz n : Nat} {v : Value} {vs : List Value} {A : Nat → Prop}
theorem LAt.of (h : LAt w lab tag sz v n vs) (hs : w.heap.size ≤ w'.heap.size) (hb : ∀ b, b < w.heap.size → lab b = tag → w'.heap[b]? = w.heap[b]?) (hl : ∀ b, b < w.heap.size → lab' b = lab b) : LAt w' lab' tag sz v n vs := by
  obtain ⟨ao, cap, h1, h2, h3⟩ := h.ex
  refine ⟨h.len, ao, cap, h1, h2, ?_⟩
  rcases h3 with h3 | ⟨b, e, hlab, hp⟩
  · exact Or.inl h3
  · exact Or.inr ⟨b, e, ⟨(hl b hp.lt).trans hlab.1, hlab.2⟩, hp.of_block hs (hb b hp.lt hlab.1)⟩
theorem LAt.below (h : LAt w lab tag sz v n vs) (hb : Below w.heap.size w w') : LAt w' lab tag sz v n vs := h.of hb.size (fun b hlt _ => hb.block b hlt) (fun _ _ => rfl)
theorem LAt.keptL (h : LAt w lab tag sz v n vs) (hk : KeptL lab A w w') (hne : ¬ A tag) : LAt w' lab tag sz v n vs :=
  h.of hk.size (fun b hlt hl => hk.block b hlt (by rw [hl]; exact hne)) (fun _ _ => rfl)
theorem LAt.relab (h : LAt w lab tag sz v n vs) (hl : ∀ b, b < w.heap.size → lab' b = lab b) : LAt w lab' tag sz v n vs := h.of (Nat.le_refl _) (fun _ _ _ => rfl) hl
theorem LAt.nil (w : World) (lab : Nat → Nat) (tag sz : Nat) : LAt w lab tag sz (.slice none 0 0) 0 [] := ⟨by simp, none, 0, rfl, Nat.le_refl _, Or.inl ⟨rfl, rfl⟩⟩
theorem LAt.val (h : LAt w lab tag sz v n vs) : ∃ ao cap, v = .slice ao n cap := by
  obtain ⟨ao, cap, h1, -, -⟩ := h.ex
  exact ⟨ao, cap, h1⟩
/-- What one sees of it where it is not empty. -/
theorem LAt.see (h : LAt w lab tag sz v n vs) (hn : 0 < n) : ∃ b cap, v = .slice (some ⟨b, 0, none⟩) n cap ∧ n ≤ cap ∧ b < w.heap.size ∧ lab b = tag ∧ ∀ (j : Nat) u, vs[j]? = some u → w.cell? ⟨b, j, none⟩ = some u := by
  obtain ⟨ao, cap, h1, h2, h3⟩ := h.ex
  rcases h3 with ⟨-, rfl⟩ | ⟨b, rfl, hl, hp⟩
  · omega
  · exact ⟨b, cap, h1, h2, hp.lt, hl.1, hp.is⟩
end

theorem own_pad {w : World} {base sz : Nat} {e : TypeId} {v : Value} {n : Nat} {xs : List Value} (h : w.ownsRow base e sz v n xs) (hn : 0 < n) :
    ∃ g cap, v = .slice (some ⟨g, 0, none⟩) n cap ∧ n ≤ cap ∧ base ≤ g ∧ Pad w g (sz * cap) xs := by
  obtain ⟨h1, h2⟩ := h
  rcases h2 with ⟨_, h2⟩ | ⟨g, cap, cur, hv, hg, hh, hnc, _, hsz, ht⟩
  · omega
  · have hms : sz * cap = cap * sz := Nat.mul_comm _ _
    have hns : n * sz ≤ cap * sz := Nat.mul_le_mul_right _ hnc
    refine ⟨g, cap, hv, hnc, hg, (Array.getElem?_eq_some_iff.1 hh).1, fun j hj => ?_, fun j hj => ?_, fun j u hu => ?_, by omega⟩
    · rw [cell_of_row _ _ j cur e (0, 0) hh, Array.getElem?_eq_getElem (by omega)]; rfl
    · unfold World.frozen?; simp only [hh]; simp
    · rw [cell_of_row _ _ j cur e (0, 0) hh]
      rw [← ht, List.getElem?_take] at hu
      split at hu
      · simpa using hu
      · cases hu
theorem nil_own (w : World) (base sz : Nat) (e : TypeId) : w.ownsRow base e sz (.slice none 0 0) 0 [] := ⟨by simp, Or.inl ⟨rfl, rfl⟩⟩

/-- 'append(s, x..)' where it comes up by itself; x: a block of m elements. -/
theorem wp_ls {w : World} {o : Oper} {a : Act} {K : Act → World → Prop} {Q : Exit → Act → World → Prop} (s x : Operand) (t e : TypeId) (z : Value) (sz bytes : Nat)
    (ho : o.op = .call { callee := .builtin .append, args := #[s, x], argTypes := #[t, t] })
    (ht : Try.prog.underlying t = some (.slice e)) (hinfo : (Try.prog.info? e).map (fun i => (i.zero, i.size, i.bytes)) = some (some z, sz, bytes)) (hzs : z.cells.size = sz) (hsz : 0 < sz)
    (lab : Nat → Nat) (tag : Nat) (v : Value) (n : Nat) (vs : List Value) (hs : a.eval s = v) (hls : LAt w lab tag sz v n vs) 
    (b2 m c : Nat) (news : List Value) (hm : 0 < m) (hl : (n + m) * bytes ≤ 140737488355328) (hl2 : n + m ≤ 140737488355328) (hx : a.eval x = .slice (some ⟨b2, 0, none⟩) m c) (hn : news.length = m * sz) (hnews : ∀ (j : Nat) u, news[j]? = some u → w.cell? ⟨b2, j, none⟩ = some u) (hone : ∀ u ∈ news, u.oneCell' = true)
    (h : ∀ v' w' lab', LAt w' lab' tag sz v' (n + m) (vs ++ news) → (∀ k, k < w.heap.size → lab' k = lab k) → KeptL lab (fun y => y = tag) w w' → K (a.put o.dst v') w') : Oper.wp Try.prog o a w K Q := by
  have hnews0 : ∀ (j : Nat) u, news[j]? = some u → w.cell? ⟨b2, 0 + j, none⟩ = some u := fun j u hj => by rw [Nat.zero_add]; exact hnews j u hj
  obtain ⟨ao, cap, hv, hlc, hc⟩ := hls.ex
  have hlen := hls.len
  have fresh : ∀ v' w', w'.ownsRow w.heap.size e sz v' (n + m) (vs ++ news) → Below w.heap.size w w' → K (a.put o.dst v') w' := by
    intro v' w' hown hB
    obtain ⟨g, cap', rfl, hnc, hg, hpad⟩ := own_pad hown (by omega)
    exact h _ w' (upd lab g tag) ⟨by rw [List.length_append, hlen, hn, Nat.add_mul], _, cap', rfl, hnc, Or.inr ⟨g, rfl, ⟨upd_at _ _ _, by omega⟩, hpad⟩⟩ (fun k hk => upd_ne _ _ (by omega)) (KeptL.of_below hB)
  obtain ⟨i, hi, hz0, hz1, hz2⟩ := info_parts hinfo
  rcases hc with ⟨rfl, rfl⟩ | ⟨b, rfl, hlab, hpad⟩
  · have hn0 : n = 0 := by omega
    subst hn0
    have hvs : vs = [] := List.length_eq_zero_iff.1 (by omega)
    subst hvs
    refine wp_append_own w s x t ho w.heap.size e i z sz bytes ht hi hz0 hz1 hz2 hzs hsz _ 0 [] hs (by rw [hv]; exact nil_own _ _ _ _) ⟨b2, 0, none⟩ m c news hx hn (fun j u hj => by rw [Addr.add_lit]; exact hnews0 j u hj) hone (by simp only [maxLen]; omega) hl (Nat.le_refl _) fun v' w' h2 h3 _ => fresh v' w' h2 ?_
    exact (Below.refl w.heap.size w).grown h3 (Nat.le_refl _) (fun k hk => by subst hv; cases hk)
  · rw [hv] at hs
    by_cases hroom : n + m ≤ cap
    · have hsum : vs.length + news.length ≤ sz * cap := by
        rw [hlen, hn, ← Nat.add_mul, Nat.mul_comm sz cap]
        exact Nat.mul_le_mul_right _ hroom
      have hrun := run_append_room_cells (P := Try.prog) w t o.type e i ht hi b 0 n cap ⟨b2, 0, none⟩ m c news (by rw [hz1]; exact hn) (fun j u hj => by rw [Addr.add_lit]; exact hnews0 j u hj) hone hroom
        (fun j hj => by rw [hz1, Nat.zero_add, ← hlen]; exact hpad.has _ (by omega)) (fun j hj => by rw [hz1, Nat.zero_add, ← hlen]; exact hpad.fz _ (by omega))
      rw [hz1, Nat.zero_add, ← hlen] at hrun
      unfold Oper.wp
      simp [execOp, ho, resolve, invoke, builtin, hs, hx, hrun, Result.andThen]
      exact h _ _ lab ⟨by rw [List.length_append, hlen, hn, Nat.add_mul], _, cap, rfl, hroom, Or.inr ⟨b, rfl, hlab, hpad.push news hsum⟩⟩ (fun _ _ => rfl) (KeptL.of_but (setCells_kept b _ _ w) hlab.1)
    · obtain ⟨v', w', hrun, r1, r2⟩ := run_append_arg_grows (P := Try.prog) w t o.type e i z sz bytes ht hi hz0 hz1 hz2 hzs (by omega) ⟨b, 0, none⟩ n cap vs (by rw [hlen]) (fun j u hj => by rw [Addr.add_lit, Nat.zero_add]; exact hpad.is j u hj) ⟨b2, 0, none⟩ m c news hn (fun j u hj => by rw [Addr.add_lit]; exact hnews0 j u hj) (by omega) (by simp only [maxLen]; omega) (by omega)
      unfold Oper.wp
      simp [execOp, ho, resolve, invoke, builtin, hs, hx, hrun, Result.andThen]
      exact fresh v' w' r1 ((Below.refl w.heap.size w).grown r2 (Nat.le_refl _) (fun k hk => by cases hk))
end Go.Proofs.Qxb6500716a
