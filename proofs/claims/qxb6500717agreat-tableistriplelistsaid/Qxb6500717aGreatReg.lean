/-
  A region that draws its order: its first m operations yield their values in every world that meets S; those from m on come up one
  behind the other; behind those before n S still stands; those from n on come behind all others.
  So the first m may be taken first, although the region may carry them out later.
-/
import Derived.Test.Qxb6500717aGreatOwn
import Derived.OrdersHeld
import Derived.Deep.RegionHeld3
namespace Go
open Go.RowKit

section
variable {P : Program} {ops : Array Oper} {md : Region.Mode} {Q : Exit → Act → World → Prop} {S : World → Prop}

def wpAnyR (P : Program) (md : Region.Mode) (ops : Array Oper) (Q : Exit → Act → World → Prop) (S : World → Prop) (n : Nat) : Nat → Array Bool → Act → World → Prop
  | 0, listed, a, w => Region.ready md ops listed = [] ∧ Q .normal a w
  | f + 1, listed, a, w =>
    (Region.ready md ops listed = [] → Q .normal a w) ∧
    ∀ i ∈ Region.ready md ops listed, wpOp P ops Q i (fun a' w' => (i < n → S w') ∧ wpAnyR P md ops Q S n f (listed.setIfInBounds i true) a' w') a w

theorem wpAny_of_R {n : Nat} : ∀ (f : Nat) (listed : Array Bool) (a : Act) (w : World), wpAnyR P md ops Q S n f listed a w → wpAny P md ops Q f listed a w
  | 0, _, _, _, h => h
  | f + 1, _, _, _, h => ⟨h.1, fun i hi => wpOp_mono (fun a' w' h' => wpAny_of_R f _ a' w' h'.2) (h.2 i hi)⟩

theorem wpAnyR_first {n i : Nat} {oi : Oper} {v : Value} (hi : ops[i]? = some oi) (hsel : ∀ (j : Nat) (o : Oper) cs b, ops[j]? = some o → o.op ≠ .select cs b)
    (hs : Region.sinkB md ops n = true) (hc : Region.chainB md ops n = true) (hn : n < ops.size) (hin : i < n)
    (hQ : ∀ c a w, Q (.panic c) (a.put oi.dst v) w → Q (.panic c) a w) :
    ∀ (f : Nat) (listed : Array Bool) (a : Act) (w : World), HeadInv md ops n listed →
      (∀ j oj, ops[j]? = some oj → j ≠ i → listed.getD j true = false → (∀ e ∈ oj.after, Region.binds md e = true → e.on ≠ i) → oi.apart ops oj = true) →
      i ∈ Region.ready md ops listed → YieldsIf P ops S oi v a → S w →
      wpAnyR P md ops Q S n f (listed.setIfInBounds i true) (a.put oi.dst v) w → wpAnyR P md ops Q S n (f + 1) listed a w := by
  intro f
  induction f with
  | zero =>
    intro listed a w _ _ hr hy hS H
    refine ⟨fun h => (by rw [h] at hr; cases hr), fun j hj => ?_⟩
    by_cases hji : j = i
    · subst hji; exact hy.wpOp hi hS ⟨fun _ => hS, H⟩
    · have := ready_mono hj hji
      rw [H.1] at this
      cases this
  | succ f ih =>
    intro listed a w inv hfree hr hy hS H
    have hun := (mem_ready.1 hr).1
    refine ⟨fun h => (by rw [h] at hr; cases hr), fun j hj => ?_⟩
    have hjn : j < n := Nat.lt_of_not_le fun h => tail_waits hs hc hn inv _ i rfl hin hun j h hj
    by_cases hji : j = i
    · subst hji; exact hy.wpOp hi hS ⟨fun _ => hS, H⟩
    · have h1 := H.2 j (ready_mono hj hji)
      obtain ⟨hjun, oj, hoj, hall⟩ := mem_ready.1 hj
      have hnot : ∀ e ∈ oj.after, Region.binds md e = true → e.on ≠ i := fun e he hb heq => by
        have h3 := hall e he hb
        rw [heq, getD_both hun] at h3
        cases h3
      have h2 := wpOp_putIf hoj (hfree j oj hoj hji hjun hnot) (fun cs b => hsel i oi cs b hi) (fun cs b => hsel j oj cs b hoj) hQ hy h1
      refine wpOp_mono (fun a' w' h3 => ⟨h3.2.1, ih (listed.setIfInBounds j true) a' w' (inv.set hj hjn) ?_ (ready_mono hr (Ne.symm hji)) h3.1 (h3.2.1 hjn) ?_⟩) h2
      · intro k ok hk hki hun' hno
        refine hfree k ok hk hki ?_ hno
        by_cases hjk : j = k
        · subst hjk; exact hjun
        · rwa [getD_set_ne true hjk] at hun'
      · rw [Array.setIfInBounds_comm _ _ hji]
        exact h3.2.2

/-- The operations from m on, one behind the other; behind the first k of them S stands. -/
def wpMid (P : Program) (ops : Array Oper) (Q : Exit → Act → World → Prop) (S : World → Prop) : Nat → List Oper → Act → World → Prop
  | _, [], a, w => Q .normal a w
  | 0, o :: rest, a, w => wpList P ops Q (o :: rest) a w
  | k + 1, o :: rest, a, w =>
    if Region.wanted o (yielded ops a.tmps) then o.wp P a w (fun a' w' => S w' ∧ wpMid P ops Q S k rest a' w') Q ∨ (o.asks P a w ∧ LetsOut Q) else S w ∧ wpMid P ops Q S k rest (a.put o.dst undef) w

theorem wpMid_zero {l : List Oper} {a : Act} {w : World} (h : wpList P ops Q l a w) : wpMid P ops Q S 0 l a w := by
  cases l with
  | nil => exact h
  | cons o l => exact h

theorem wpMid_step {k : Nat} {o : Oper} {rest : List Oper} {a : Act} {w : World} (hg : o.guard = none)
    (h : o.wp P a w (fun a' w' => S w' ∧ wpMid P ops Q S k rest a' w') Q) : wpMid P ops Q S (k + 1) (o :: rest) a w := by
  unfold wpMid
  rw [if_pos (by simp [Region.wanted, hg])]
  exact Or.inl h

theorem wpMid_stepK {k : Nat} {o : Oper} {rest : List Oper} {a : Act} {w : World} (hg : o.guard = none)
    (h : ∀ K : Act → World → Prop, Hid (∀ a' w', S w' → wpMid P ops Q S k rest a' w' → K a' w') → o.wp P a w K Q) : wpMid P ops Q S (k + 1) (o :: rest) a w :=
  wpMid_step hg (h _ fun _ _ h1 h2 => ⟨h1, h2⟩)

theorem wpAnyR_seq {n : Nat} : ∀ (l : List Oper) (k : Nat) (listed : Array Bool) (a : Act) (w : World), (∀ j, l[j]? = ops[k + j]?) →
    Region.seqB md ops l.length k listed = true → wpMid P ops Q S (n - k) l a w → wpAnyR P md ops Q S n l.length listed a w
  | [], k, _, _, _, _, hB, h => ⟨by simpa [Region.seqB] using hB, by cases hk : n - k <;> (rw [hk] at h; exact h)⟩
  | o :: l, k, listed, a, w, hl, hB, h => by
    have h0 : ops[k]? = some o := by simpa using (hl 0).symm
    simp only [List.length_cons, Region.seqB, Bool.and_eq_true, decide_eq_true_eq] at hB
    refine ⟨fun h1 => (by rw [hB.1] at h1; cases h1), fun i hi => ?_⟩
    rw [hB.1] at hi
    have hik : i = k := by simpa using hi
    subst hik
    have hl' : ∀ j, l[j]? = ops[i + 1 + j]? := fun j => by have := hl (j + 1); simpa [Nat.add_assoc, Nat.add_comm 1 j] using this
    cases hk : n - i with
    | zero =>
      rw [hk] at h
      have hw : wpOp P ops Q i (wpList P ops Q l) a w := by unfold wpOp; simp only [h0]; exact h
      exact wpOp_mono (fun a' w' h' => ⟨fun hlt => by omega, wpAnyR_seq l (i + 1) _ a' w' hl' hB.2 (by rw [show n - (i + 1) = 0 by omega]; exact wpMid_zero h')⟩) hw
    | succ m =>
      rw [hk] at h
      have hw : wpOp P ops Q i (fun a' w' => S w' ∧ wpMid P ops Q S m l a' w') a w := by unfold wpOp; simp only [h0]; exact h
      exact wpOp_mono (fun a' w' h' => ⟨fun _ => h'.1, wpAnyR_seq l (i + 1) _ a' w' hl' hB.2 (by rw [show n - (i + 1) = m by omega]; exact h'.2)⟩) hw

/-- The first operations, each yielding its value in every world that meets S. -/
def wpHeld (P : Program) (ops : Array Oper) (S : World → Prop) (L : Act → Prop) : List Oper → Act → Prop
  | [], a => L a
  | o :: l, a => ∃ v, YieldsIf P ops S o v a ∧ wpHeld P ops S L l (a.put o.dst v)

theorem wpHeld_step {L : Act → Prop} {o : Oper} {l : List Oper} {a : Act} {v : Value} (hg : o.guard = none) (hy : ∀ w, S w → (execOp a.eval o).run P w = .ok (.value v) w)
    (h : wpHeld P ops S L l (a.put o.dst v)) : wpHeld P ops S L (o :: l) a :=
  ⟨v, Or.inl ⟨by simp [Region.wanted, hg], hy⟩, h⟩

theorem wpHeld_nil {L : Act → Prop} {a : Act} (h : L a) : wpHeld P ops S L [] a := h

theorem wpAnyR_lex {n m g : Nat} {L : Act → Prop} {w : World} (hS : S w) (hsel : Region.noSelect ops = true) (hs : Region.sinkB md ops n = true) (hc : Region.chainB md ops n = true) (hn : n < ops.size) (hmn : m ≤ n)
    (hQ : ∀ c a w d v, Q (.panic c) (Act.put a d v) w → Q (.panic c) a w)
    (hL : ∀ listed a, Region.seqB md ops g m listed = true → L a → wpAnyR P md ops Q S n g listed a w) :
    ∀ (l : List Oper) (k : Nat) (listed : Array Bool) (a : Act), (∀ j, j < l.length → l[j]? = ops[k + j]?) → k + l.length = m → HeadInv md ops n listed →
    Region.lexHead md ops g l.length k listed = true → wpHeld P ops S L l a → wpAnyR P md ops Q S n (l.length + g) listed a w
  | [], k, listed, a, _, hk, _, hB, h => by
    have : k = m := by simpa using hk
    subst this
    simpa using hL listed a (by simpa [Region.lexHead] using hB) h
  | o :: l, k, listed, a, hl, hk, inv, hB, h => by
    have h0 : ops[k]? = some o := by simpa using (hl 0 (by simp)).symm
    simp only [List.length_cons, Region.lexHead, Bool.and_eq_true] at hB hk
    obtain ⟨⟨hr, hf⟩, hB'⟩ := hB
    have hr' : k ∈ Region.ready md ops listed := by simpa using hr
    obtain ⟨v, hy, hK⟩ := h
    rw [List.length_cons, show l.length + 1 + g = (l.length + g) + 1 by omega]
    refine wpAnyR_first h0 (Region.noSelect_spec hsel) hs hc hn (by omega) (fun c a w => hQ c a w o.dst v) (l.length + g) listed a w inv (Region.free_spec h0 hf) hr' hy hS ?_
    refine wpAnyR_lex hS hsel hs hc hn hmn hQ hL l (k + 1) _ _ (fun j hj => ?_) (by omega) (inv.set hr' (by omega)) hB' hK
    have := hl (j + 1) (by simp; omega)
    simpa [Nat.add_assoc, Nat.add_comm 1 j] using this

/-- The rule. -/
theorem wp_region_mid {id : Nat} {a : Act} {w : World} {l : List Oper} (m n : Nat) (S : World → Prop) (hm : P.follows .mixedOrders = true)
    (hsel : Region.noSelect l.toArray = true) (hs : Region.sinkB .any l.toArray n = true) (hc : Region.chainB .any l.toArray n = true) (hn : decide (n < l.toArray.size ∧ m ≤ n) = true)
    (hB : Region.lexHead .any l.toArray (l.toArray.size - m) m 0 (Array.replicate l.toArray.size false) = true)
    (hS : S w.drew)
    (h : wpHeld P l.toArray S (fun a' => wpMid P l.toArray (NoPanic Q) S (n - m) (l.drop m) a' w.drew) (l.take m) a) : (Code.region id l.toArray true).wp P Q a w := by
  refine wp_region_noPanic ?_
  have hQ : ∀ c a w d v, NoPanic Q (.panic c) (Act.put a d v) w → NoPanic Q (.panic c) a w := fun _ _ _ _ _ h => h
  obtain ⟨hn1, hmn⟩ := of_decide_eq_true hn
  have hn' : n < l.length := by simpa using hn1
  have htl : (l.take m).length = m := by simp; omega
  have hdl : (l.drop m).length = l.toArray.size - m := by simp
  have inv0 : HeadInv .any l.toArray n (Array.replicate l.toArray.size false) :=
    ⟨by simp, fun j oj _ hl => (by rw [getD_replicate_false] at hl; cases hl), fun t _ ht => getD_in (by simpa using ht) (getD_replicate_false _ _)⟩
  have H := wpAnyR_lex (md := .any) (g := l.toArray.size - m) (P := P) (S := S) hS hsel hs hc hn1 hmn hQ
    (fun listed a' hseq hL => by
      have := wpAnyR_seq (md := .any) (Q := NoPanic Q) (S := S) (P := P) (n := n) (l.drop m) m listed a' w.drew (fun j => by simp [List.getElem?_drop]) (by rw [hdl]; exact hseq) hL
      rwa [hdl] at this) (l.take m) 0 _ a (fun j hj => by
    have hj' : j < m := by rw [htl] at hj; exact hj
    simp [hj']) (by simpa using htl) inv0 (by rw [htl]; exact hB) h
  refine wp_region_any hm ?_
  have := wpAny_of_R _ _ _ _ H
  rw [htl, show m + (l.toArray.size - m) = l.toArray.size by simp; omega] at this
  exact this

/-- 'append' in the midst. -/
theorem mid_app {w : World} {k : Nat} {rest : List Oper} {o : Oper} {a : Act} (hgd : o.guard = none) (s x : Operand) (t : TypeId)
    (ho : o.op = .call { callee := .builtin .append, args := #[s, x], argTypes := #[t, t] })
    (base : Nat) (e : TypeId) (z : Value) (size bytes : Nat) (ht : P.underlying t = some (.slice e)) (hinfo : (P.info? e).map (fun i => (i.zero, i.size, i.bytes)) = some (some z, size, bytes))
    (hzs : z.cells.size = size) (hsz : 0 < size)
    (v : Value) (n : Nat) (xs : List Value) (hs : a.eval s = v) (hown : w.ownsRow base e size v n xs)
    (b2 o2 m c : Nat) (news : List Value) (hx : a.eval x = .slice (some ⟨b2, o2, none⟩) m c) (hl : news.length = m * size) (hnews : ∀ j u, news[j]? = some u → w.cell? ⟨b2, o2 + j, none⟩ = some u) (h1 : ∀ u ∈ news, u.oneCell' = true)
    (h63 : n + m ≤ 9223372036854775807) (hbytes : (n + m) * bytes ≤ 140737488355328) (hbase : base ≤ w.heap.size)
    (h : ∀ v' w', w'.ownsRow base e size v' (n + m) (xs ++ news) → Below base w w' → S w' ∧ wpMid P ops Q S k rest (a.put o.dst v') w') : wpMid P ops Q S (k + 1) (o :: rest) a w := by
  obtain ⟨i, hi, hz0, hz1, hz2⟩ := info_parts hinfo
  refine wpMid_step hgd (wp_append_own w s x t ho base e i z size bytes ht hi hz0 hz1 hz2 hzs hsz v n xs hs hown ⟨b2, o2, none⟩ m c news hx hl (fun j u hj => ?_) h1 (by simp only [maxLen]; omega) hbytes hbase fun v' w' h2 h3 _ => h v' w' h2 ?_)
  · rw [Addr.add_lit]; exact hnews j u hj
  · exact (Below.refl base w).grown h3 hbase fun k hk => (hown.lt k hk).1

/-- 'append' of one one-cell element in the midst, where there is room. -/
theorem mid_room {w : World} {k : Nat} {rest : List Oper} {o : Oper} {a : Act} (hgd : o.guard = none) (s x : Operand) (t : TypeId)
    (ho : o.op = .call { callee := .builtin .append, args := #[s, x], argTypes := #[t, t] })
    (e : TypeId) (z : Value) (bytes : Nat) (ht : P.underlying t = some (.slice e)) (hinfo : (P.info? e).map (fun i => (i.zero, i.size, i.bytes)) = some (some z, 1, bytes))
    (g n cap : Nat) (cur : Array Value) (hs : a.eval s = .slice (some ⟨g, 0, none⟩) n cap) (hg : w.heap[g]? = some (.cells cur e)) (hn : n < cap) (hc : n < cur.size)
    (b2 c : Nat) (u : Value) (hx : a.eval x = .slice (some ⟨b2, 0, none⟩) 1 c) (hu : w.cell? ⟨b2, 0, none⟩ = some u) (h1 : u.oneCell' = true)
    (h : S (w.setCell ⟨g, n, none⟩ u) ∧ wpMid P ops Q S k rest (a.put o.dst (.slice (some ⟨g, 0, none⟩) (n + 1) cap)) (w.setCell ⟨g, n, none⟩ u)) : wpMid P ops Q S (k + 1) (o :: rest) a w := by
  obtain ⟨i, hi, hz0, hz1, hz2⟩ := info_parts hinfo
  refine wpMid_step hgd ?_
  have hr := run_append_room (P := P) w t o.type e i ht hi g n cap cur hg ⟨b2, 0, none⟩ 1 c [u] (by simp [hz1]) (fun j v hj => by
    match j, hj with
    | 0, hj => simp at hj; subst hj; simpa [Addr.add_lit] using hu) (by simpa using h1) (by omega) (by simp [hz1]; omega)
  have hset : (cur.toList.take (n * i.size) ++ [u] ++ cur.toList.drop (n * i.size + [u].length)).toArray = cur.setIfInBounds n u := by
    rw [hz1, Nat.mul_one]
    apply Array.ext'
    simp [List.set_eq_take_append_cons_drop, hc]
  unfold Oper.wp execOp
  simp only [ho, resolve, invoke, builtin, Sem.run_bind, Sem.run_pure, Result.andThen_ok, List.map_toArray, List.map_cons, List.map_nil, hs, hx, hr]
  rw [hset, ← setCell_eq_setRow w g n cur e _ u hg]
  exact h
end
end Go
