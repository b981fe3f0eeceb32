/-
  The reservation table: plain, and in memory.
-/
import Derived.Test.Qxb6500716aLs
namespace Go.Proofs.Qxb6500716a
open Go.RowKit Go.Maps
set_option linter.unusedSimpArgs false
set_option linter.unusedVariables false

/-! counts -/
def cntT (g : Nat → Bool) : Nat → Nat
  | 0 => 0
  | n + 1 => cntT g n + if g n = true then 1 else 0
def sumR (g : Nat → Nat) : Nat → Nat
  | 0 => 0
  | n + 1 => sumR g n + g n
theorem cntT_congr {f g : Nat → Bool} : ∀ n, (∀ i, i < n → f i = g i) → cntT f n = cntT g n := by
  intro n
  induction n with
  | zero => intro _; rfl
  | succ n ih => intro h; simp only [cntT]; rw [ih (fun i hi => h i (by omega)), h n (by omega)]
theorem cntT_set {f g : Nat → Bool} {s : Nat} (hs : f s = false) (hg : g s = true) (he : ∀ i, i ≠ s → f i = g i) : ∀ n, s < n → cntT g n = cntT f n + 1 := by
  intro n
  induction n with
  | zero => intro h; omega
  | succ n ih =>
    intro h
    simp only [cntT]
    by_cases hn : s = n
    · subst hn
      rw [hs, hg, cntT_congr s (fun i hi => he i (by omega))]; simp
    · rw [ih (by omega), he n (fun e => hn e.symm)]; omega
theorem sumR_congr {g h : Nat → Nat} : ∀ n, (∀ i, i < n → g i = h i) → sumR g n = sumR h n := by
  intro n
  induction n with
  | zero => intro _; rfl
  | succ n ih => intro he; simp only [sumR]; rw [ih (fun i hi => he i (by omega)), he n (by omega)]
theorem sumR_set {g h : Nat → Nat} {r : Nat} (d : Nat) (hr : h r = g r + d) (he : ∀ i, i ≠ r → g i = h i) : ∀ n, r < n → sumR h n = sumR g n + d := by
  intro n
  induction n with
  | zero => intro hn; omega
  | succ n ih =>
    intro hn
    simp only [sumR]
    by_cases e : r = n
    · subst e
      rw [hr, sumR_congr r (fun i hi => (he i (by omega)).symm)]; omega
    · rw [ih (by omega), he n (fun x => e x.symm)]; omega

/-- Ticks lie below this. -/
def NTf (f : Int → Int → Option Int) : Nat := 2147483648 + 0 * (if (f 0 0).isSome = true then 1 else 0)
theorem NTf_eq (f : Int → Int → Option Int) : NTf f = 2147483648 := by unfold NTf; rw [Nat.zero_mul]
/-- How many entries. -/
def cntM (f : Int → Int → Option Int) : Nat := sumR (fun r => cntT (fun t => (f r t).isSome) (NTf f)) 6
def putM (f : Int → Int → Option Int) (a b x : Int) : Int → Int → Option Int := fun a' b' => if a' = a ∧ b' = b then some x else f a' b'
def delM (f : Int → Int → Option Int) (a b : Int) : Int → Int → Option Int := fun a' b' => if a' = a ∧ b' = b then none else f a' b'
/-- Where entries may lie. -/
structure MBd (f : Int → Int → Option Int) : Prop where
  a : ∀ a b x, f a b = some x → 0 ≤ a ∧ a < 6
  b : ∀ a b x, f a b = some x → 0 ≤ b ∧ b < 2147483648
  x : ∀ a b x, f a b = some x → 0 ≤ x ∧ x < 1000
theorem cntM_of (f g : Int → Int → Option Int) (a b : Nat) (ha : a < 6) (hb : b < 2147483648) (hf : (f a b).isSome = false) (hg : (g a b).isSome = true) (he : ∀ a' b' : Int, ¬ (a' = a ∧ b' = b) → (f a' b').isSome = (g a' b').isSome) : cntM g = cntM f + 1 := by
  unfold cntM
  rw [show NTf g = NTf f from (NTf_eq g).trans (NTf_eq f).symm]
  refine sumR_set 1 (r := a) ?_ (fun i hi => ?_) 6 ha
  · exact cntT_set hf hg (fun i hi => he _ _ (by omega)) (NTf f) (by rw [NTf_eq]; exact hb)
  · exact cntT_congr (NTf f) (fun j _ => he _ _ (by omega))
theorem cntM_put {f : Int → Int → Option Int} {a b : Int} (x : Int) (ha : 0 ≤ a ∧ a < 6) (hb : 0 ≤ b ∧ b < 2147483648) (h : f a b = none) : cntM (putM f a b x) = cntM f + 1 := by
  obtain ⟨a, rfl⟩ : ∃ n : Nat, a = n := ⟨a.toNat, by omega⟩
  obtain ⟨b, rfl⟩ : ∃ n : Nat, b = n := ⟨b.toNat, by omega⟩
  exact cntM_of f _ a b (by omega) (by omega) (by rw [h]; rfl) (by simp [putM]) (fun a' b' hn => by simp [putM, hn])
theorem cntM_del {f : Int → Int → Option Int} {a b x : Int} (hB : MBd f) (h : f a b = some x) : cntM (delM f a b) + 1 = cntM f := by
  have ha := hB.a a b x h
  have hb := hB.b a b x h
  obtain ⟨a, rfl⟩ : ∃ n : Nat, a = n := ⟨a.toNat, by omega⟩
  obtain ⟨b, rfl⟩ : ∃ n : Nat, b = n := ⟨b.toNat, by omega⟩
  exact (cntM_of (delM f a b) f a b (by omega) (by omega) (by simp [delM]) (by rw [h]; rfl) (fun a' b' hn => by simp [delM, hn])).symm
theorem delM_none {f : Int → Int → Option Int} {a b : Int} (h : f a b = none) : delM f a b = f := by
  funext a' b'
  unfold delM
  split
  · rename_i e; rw [e.1, e.2, h]
  · rfl
theorem MBd.put {f : Int → Int → Option Int} {a b x : Int} (h : MBd f) (ha : 0 ≤ a ∧ a < 6) (hb : 0 ≤ b ∧ b < 2147483648) (hx : 0 ≤ x ∧ x < 1000) : MBd (putM f a b x) := by
  refine ⟨fun a' b' y hy => ?_, fun a' b' y hy => ?_, fun a' b' y hy => ?_⟩ <;> unfold putM at hy <;> split at hy
  · rename_i e; omega
  · exact h.a _ _ _ hy
  · rename_i e; omega
  · exact h.b _ _ _ hy
  · simp at hy; omega
  · exact h.x _ _ _ hy
theorem MBd.del {f : Int → Int → Option Int} (h : MBd f) (a b : Int) : MBd (delM f a b) := by
  refine ⟨fun a' b' y hy => ?_, fun a' b' y hy => ?_, fun a' b' y hy => ?_⟩ <;> unfold delM at hy <;> split at hy
  · cases hy
  · exact h.a _ _ _ hy
  · cases hy
  · exact h.b _ _ _ hy
  · cases hy
  · exact h.x _ _ _ hy

/-- The datum D reads as f. -/
structure MIs (D : DataW Unit) (f : Int → Int → Option Int) : Prop where
  bd : MBd f
  has : ∀ a b, I64 a → I64 b → Maps.has D (key2 a b) = (f a b).isSome
  val : ∀ a b x, f a b = some x → D.atKey (key2 a b) (.lit (.int .i64 0)) = .lit (.int .i64 x)
  size : Maps.size D = cntM f
theorem cntT_none {g : Nat → Bool} (h : ∀ i, g i = false) : ∀ n, cntT g n = 0 := by
  intro n
  induction n with
  | zero => rfl
  | succ n ih => simp only [cntT, ih, h]; rfl
theorem cntN_none (f : Int → Int → Option Int) (h : ∀ a b, f a b = none) (n : Nat) : sumR (fun r => cntT (fun t => (f r t).isSome) n) 6 = 0 := by
  have : ∀ r : Nat, cntT (fun t => (f r t).isSome) n = 0 := fun r => cntT_none (fun i => by rw [h]; rfl) n
  simp only [sumR, this]
theorem cntM_none (f : Int → Int → Option Int) (h : ∀ a b, f a b = none) : cntM f = 0 := cntN_none f h (NTf f)
theorem cntM_empty : cntM (fun _ _ => none) = 0 := cntM_none _ (fun _ _ => rfl)
section
variable {f : Int → Int → Option Int} {D : DataW Unit}
theorem MIs.i64 (h : MIs D f) {a b x : Int} (hf : f a b = some x) : I64 a ∧ I64 b ∧ I64 x := by
  have h1 := h.bd.a a b x hf
  have h2 := h.bd.b a b x hf
  have h3 := h.bd.x a b x hf
  exact ⟨⟨by omega, by omega⟩, ⟨by omega, by omega⟩, ⟨by omega, by omega⟩⟩
theorem MIs.empty : MIs (.map []) (fun _ _ => none) := by
  refine ⟨⟨fun _ _ _ h => (nomatch h), fun _ _ _ h => (nomatch h), fun _ _ _ h => (nomatch h)⟩, fun a b _ _ => rfl, fun _ _ _ h => (nomatch h), ?_⟩
  exact cntM_empty.symm
theorem MIs.put (h : MIs D f) (hT : Tidy D) {a b x : Int} (ha : 0 ≤ a ∧ a < 6) (hb : 0 ≤ b ∧ b < 2147483648) (hx : 0 ≤ x ∧ x < 1000) (hn : f a b = none) : MIs (D.put (key2 a b) (.lit (.int .i64 x))) (putM f a b x) := by
  have ia : I64 a := ⟨by omega, by omega⟩
  have ib : I64 b := ⟨by omega, by omega⟩
  refine ⟨h.bd.put ha hb hx, fun a' b' ha' hb' => ?_, fun a' b' y hy => ?_, ?_⟩
  · unfold putM
    by_cases e : a' = a ∧ b' = b
    · rw [if_pos e, e.1, e.2, has_put_same hT.isMap (key2_lit _ _)]; rfl
    · rw [if_neg e, has_put_other (fun e1 => e (key2_inj ha' hb' ia ib e1))]
      exact h.has a' b' ha' hb'
  · have hy0 := hy
    unfold putM at hy
    by_cases e : a' = a ∧ b' = b
    · rw [if_pos e] at hy
      rw [e.1, e.2, atKey_put_same hT.isMap (key2_lit _ _)]
      simpa using hy
    · rw [if_neg e] at hy
      obtain ⟨i1, i2, -⟩ := h.i64 hy
      rw [atKey_put_other (fun e1 => e (key2_inj i1 i2 ia ib e1))]
      exact h.val a' b' y hy
  · rw [size_put hT, h.has a b ia ib, hn, cntM_put x ha hb hn, h.size]; rfl
theorem MIs.del (h : MIs D f) (hT : Tidy D) {a b : Int} (ia : I64 a) (ib : I64 b) : MIs (D.del (key2 a b)) (delM f a b) := by
  refine ⟨h.bd.del a b, fun a' b' ha' hb' => ?_, fun a' b' y hy => ?_, ?_⟩
  · unfold delM
    by_cases e : a' = a ∧ b' = b
    · rw [if_pos e, e.1, e.2, has_del_same]; rfl
    · rw [if_neg e, has_del_other (fun e1 => e (key2_inj ha' hb' ia ib e1))]
      exact h.has a' b' ha' hb'
  · unfold delM at hy
    by_cases e : a' = a ∧ b' = b
    · rw [if_pos e] at hy; cases hy
    · rw [if_neg e] at hy
      obtain ⟨i1, i2, -⟩ := h.i64 hy
      rw [atKey_del_other (fun e1 => e (key2_inj i1 i2 ia ib e1))]
      exact h.val a' b' y hy
  · have h1 := size_del (k := key2 a b) hT
    rw [h.has a b ia ib] at h1
    cases hf : f a b with
    | none => rw [hf] at h1; rw [delM_none hf]; have := h.size; simp at h1; omega
    | some x =>
      rw [hf] at h1
      have := cntM_del h.bd hf
      have := h.size
      simp at h1
      omega
/-- What is there. -/
theorem MIs.some (h : MIs D f) {a b x : Int} (ia : I64 a) (ib : I64 b) (hat : ∀ zd, D.atKey (key2 a b) zd = .lit (.int .i64 x)) : f a b = some x := by
  have h1 := has_true_of_atKey hat
  rw [h.has a b ia ib] at h1
  cases hf : f a b with
  | none => rw [hf] at h1; cases h1
  | some y =>
    have := h.val a b y hf
    rw [hat] at this
    simp at this
    rw [this]
end

/-- Block b is a map that reads as f. -/
def MAt (w : World) (b : Nat) (f : Int → Int → Option Int) : Prop := ∃ D, w.ownsMap Try.prog 113 (plainElem Try.prog 3) b (Maps.size D) D ∧ MIs D f
section
variable {w w1 : World} {b : Nat} {f : Int → Int → Option Int}
theorem own_of {H : Type} {w w' : World} {P : Program} {k : TypeId} {R : Value → Option (DataW H × List MemPlace)} {b n : Nat} {D : DataW H} (h : w.ownsMap P k R b n D) (hb : w'.heap[b]? = w.heap[b]?) : w'.ownsMap P k R b n D := by
  obtain ⟨es, clock, hb', F, hs, hD⟩ := h
  exact ⟨es, clock, hb.trans hb', F, hs, hD⟩
theorem own_tight {H : Type} {w : World} {P : Program} {k : TypeId} {R : Value → Option (DataW H × List MemPlace)} {b n : Nat} {D : DataW H} (h : w.ownsMap P k R b n D) : w.ownsMap P k R b (Maps.size D) D := by
  obtain ⟨es, clock, hb', F, hs, hD⟩ := h
  refine ⟨es, clock, hb', F, ?_, hD⟩
  rw [hD, size_eq, length_sorted]
  simp
theorem MAt.of_block (h : MAt w b f) (hb : w1.heap[b]? = w.heap[b]?) : MAt w1 b f := by
  obtain ⟨D, h1, h2⟩ := h
  exact ⟨D, own_of h1 hb, h2⟩
theorem MAt.lt (h : MAt w b f) : b < w.heap.size := by
  obtain ⟨D, h1, h2⟩ := h
  exact h1.lt
theorem MAt.below (h : MAt w b f) (hb : Below w.heap.size w w1) : MAt w1 b f := h.of_block (hb.block b h.lt)
theorem MAt.keptL {lab : Nat → Nat} {A : Nat → Prop} (h : MAt w b f) (hk : KeptL lab A w w1) (hne : ¬ A (lab b)) : MAt w1 b f := h.of_block (hk.block b h.lt hne)
theorem MAt.bd (h : MAt w b f) : MBd f := by obtain ⟨D, h1, h2⟩ := h; exact h2.bd
theorem MAt.made (w : World) : MAt (w.alloc (.map #[] 0)) w.heap.size (fun _ _ => none) := ⟨_, World.ownsMap_made w Try.prog 113 (plainElem Try.prog 3), MIs.empty⟩
theorem MAt.look (h : MAt w b f) {r t : Int} (hr : I64 r) (ht : I64 t) : (Instr.lookup 109 (.map (some b)) (.agg #[.int .i64 (r), .int .i64 (t)]) true).run Try.prog w = .ok (.tuple #[.int .i64 ((f r t).getD 0), .bool (f r t).isSome]) w := by
  obtain ⟨D, h1, h2⟩ := h
  obtain ⟨v, ps, hrun, hv⟩ := h1.look_ok law113 Try.underlying109 (zero3 w) (plainElem_int Try.underlying3 (I64.wf ⟨by omega, by omega⟩)) (key2_of hr ht)
  obtain ⟨c, rfl, hc, -⟩ := plainElem_int_inv Try.underlying3 hv
  have hc1 := congrArg Prod.fst hc
  simp only at hc1
  rw [hrun, h2.has r t hr ht]
  cases hm : f r t with
  | none =>
    have h0 := atKey_of_not_has (D := D) (k := key2 r t) (by rw [h2.has r t hr ht, hm]; rfl) (.lit (.int .i64 0))
    rw [h0] at hc1
    simp at hc1
    simp [← hc1]
  | some x =>
    rw [h2.val r t x hm] at hc1
    simp at hc1
    simp [hc1]
theorem MAt.len (h : MAt w b f) (ty : TypeId) : (Builtin.len_ #[109] ty #[.map (some b)]).run Try.prog w = .ok (.int .i64 (cntM f)) w := by
  obtain ⟨D, h1, h2⟩ := h
  rw [← h2.size]
  exact h1.len Try.underlying109 ty
theorem MAt.put (h : MAt w b f) {r t x : Int} (hr : 0 ≤ r ∧ r < 6) (ht : 0 ≤ t ∧ t < 2147483648) (hx : 0 ≤ x ∧ x < 1000) (hn : f r t = none) (hc : cntM f < 1000000) :
    ∃ w', (Instr.mapUpdate 109 (.map (some b)) (.agg #[.int .i64 (r), .int .i64 (t)]) (.int .i64 (x))).run Try.prog w = .ok () w' ∧ MAt w' b (putM f r t x) ∧ w.grownBy w' (some b) := by
  obtain ⟨D, h1, h2⟩ := h
  obtain ⟨w', hrun, r1, r2⟩ := h1.update (d := .lit (.int .i64 x)) (ps := []) law113 Try.underlying109 (by rw [h2.size]; simp only [maxLen]; omega) (key2_of (a := r) (b := t) ⟨by omega, by omega⟩ ⟨by omega, by omega⟩) (plainElem_int Try.underlying3 (I64.wf ⟨by omega, by omega⟩))
  exact ⟨w', hrun, ⟨_, own_tight r1, h2.put (h1.tidy law113) hr ht hx hn⟩, r2⟩
theorem MAt.drop (h : MAt w b f) {r t : Int} (hr : I64 r) (ht : I64 t) (ty : TypeId) :
    ∃ w', (Builtin.delete_ #[109, 113] ty #[.map (some b), .agg #[.int .i64 (r), .int .i64 (t)]]).run Try.prog w = .ok (.tuple #[]) w' ∧ MAt w' b (delM f r t) ∧ w.mapTurned w' b := by
  obtain ⟨D, h1, h2⟩ := h
  obtain ⟨w', hrun, r1, r2⟩ := h1.drop law113 Try.underlying109 (key2_of hr ht) ty
  exact ⟨w', hrun, ⟨_, own_tight r1, h2.del (h1.tidy law113) hr ht⟩, r2⟩
end
end Go.Proofs.Qxb6500716a
