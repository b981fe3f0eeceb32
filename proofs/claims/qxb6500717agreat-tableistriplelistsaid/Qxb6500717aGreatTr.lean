/-
  A region that draws its order, walked by a tree. Operation m is the first that writes what others load; up to it S stands.
  An operation that yields its value in every world, or in every world that meets S and m waits for it, is taken first where it is ready;
  else all that may come up are walked.
-/
import Derived.Test.Qxb6500717aGreatReg
namespace Go
open Go.RowKit

section
variable {P : Program} {ops : Array Oper} {md : Region.Mode} {Q : Exit → Act → World → Prop} {S : World → Prop} {m : Nat}

theorem getD_set_self {listed : Array Bool} {i : Nat} (d : Bool) (h : i < listed.size) : (listed.setIfInBounds i true).getD i d = true := by simp [h]

def wpAnyM (P : Program) (md : Region.Mode) (ops : Array Oper) (Q : Exit → Act → World → Prop) (S : World → Prop) (m : Nat) : Nat → Array Bool → Act → World → Prop
  | 0, listed, a, w => Region.ready md ops listed = [] ∧ Q .normal a w
  | f + 1, listed, a, w =>
    (Region.ready md ops listed = [] → Q .normal a w) ∧
    ∀ i ∈ Region.ready md ops listed, wpOp P ops Q i (fun a' w' => (i ≠ m → listed.getD m false = false → S w') ∧ wpAnyM P md ops Q S m f (listed.setIfInBounds i true) a' w') a w

theorem wpAny_of_M : ∀ (f : Nat) (listed : Array Bool) (a : Act) (w : World), wpAnyM P md ops Q S m f listed a w → wpAny P md ops Q f listed a w
  | 0, _, _, _, h => h
  | f + 1, _, _, _, h => ⟨h.1, fun i hi => wpOp_mono (fun a' w' h' => wpAny_of_M f _ a' w' h'.2) (h.2 i hi)⟩

def Closed (md : Region.Mode) (ops : Array Oper) (listed : Array Bool) : Prop :=
  ∀ j oj, ops[j]? = some oj → listed.getD j false = true → ∀ e ∈ oj.after, Region.binds md e = true → listed.getD e.on false = true
theorem Closed.set {i : Nat} {listed : Array Bool} (inv : Closed md ops listed) (hi : i ∈ Region.ready md ops listed) : Closed md ops (listed.setIfInBounds i true) := by
  obtain ⟨_, oi, hoi, hall⟩ := mem_ready.1 hi
  intro j oj hj hl e he hb
  by_cases hij : i = j
  · subst hij
    have : oj = oi := Option.some.inj (hj.symm.trans hoi)
    subst this
    exact getD_set_true (hall e he hb)
  · rw [getD_set_ne false hij] at hl
    exact getD_set_true (inv j oj hj hl e he hb)

theorem wpAnyM_first {i : Nat} {oi : Oper} {v : Value} {s : Bool} (hi : ops[i]? = some oi) (hsel : ∀ (j : Nat) (o : Oper) cs b, ops[j]? = some o → o.op ≠ .select cs b)
    (hs : s = true → Region.waitsFor md ops m i = true) (hne : i ≠ m)
    (hQ : ∀ c a w, Q (.panic c) (a.put oi.dst v) w → Q (.panic c) a w) :
    ∀ (f : Nat) (listed : Array Bool) (a : Act) (w : World), Closed md ops listed →
      (∀ j oj, ops[j]? = some oj → j ≠ i → listed.getD j true = false → (∀ e ∈ oj.after, Region.binds md e = true → e.on ≠ i) → oi.apart ops oj = true) →
      i ∈ Region.ready md ops listed → YieldsIf P ops (fun w => s = true → S w) oi v a → (listed.getD m false = false → S w) →
      wpAnyM P md ops Q S m f (listed.setIfInBounds i true) (a.put oi.dst v) w → wpAnyM P md ops Q S m (f + 1) listed a w := by
  intro f
  have hmu : ∀ listed : Array Bool, Closed md ops listed → listed.getD i true = false → s = true → listed.getD m false = false := by
    intro listed inv hun h1
    obtain ⟨om, hom, e, he, hb, hon⟩ := Region.waitsFor_spec (hs h1)
    cases hx : listed.getD m false with
    | false => rfl
    | true =>
      have := inv m om hom hx e he hb
      rw [hon, getD_both hun] at this
      cases this
  induction f with
  | zero =>
    intro listed a w inv _ hr hy hS H
    refine ⟨fun h => (by rw [h] at hr; cases hr), fun j hj => ?_⟩
    by_cases hji : j = i
    · subst hji
      exact hy.wpOp hi (fun h1 => hS (hmu listed inv (mem_ready.1 hr).1 h1)) ⟨fun _ h2 => hS h2, H⟩
    · have := ready_mono hj hji
      rw [H.1] at this
      cases this
  | succ f ih =>
    intro listed a w inv hfree hr hy hS H
    have hun := (mem_ready.1 hr).1
    refine ⟨fun h => (by rw [h] at hr; cases hr), fun j hj => ?_⟩
    by_cases hji : j = i
    · subst hji
      exact hy.wpOp hi (fun h1 => hS (hmu listed inv hun h1)) ⟨fun _ h2 => hS h2, H⟩
    · have h1 := H.2 j (ready_mono hj hji)
      obtain ⟨hjun, oj, hoj, hall⟩ := mem_ready.1 hj
      have hnot : ∀ e ∈ oj.after, Region.binds md e = true → e.on ≠ i := fun e he hb heq => by
        have h3 := hall e he hb
        rw [heq, getD_both hun] at h3
        cases h3
      have h2 := wpOp_putIf hoj (hfree j oj hoj hji hjun hnot) (fun cs b => hsel i oi cs b hi) (fun cs b => hsel j oj cs b hoj) hQ hy h1
      have hSj : ∀ w' : World, (j ≠ m → (listed.setIfInBounds i true).getD m false = false → S w') → j ≠ m → listed.getD m false = false → S w' := by
        intro w' h3 h4 h5
        exact h3 h4 (by rw [getD_set_ne false hne]; exact h5)
      refine wpOp_mono (fun a' w' h3 => ⟨hSj w' h3.2.1, ih (listed.setIfInBounds j true) a' w' (inv.set hj) ?_ (ready_mono hr (Ne.symm hji)) h3.1 ?_ ?_⟩) h2
      · intro k ok hk hki hun' hno
        refine hfree k ok hk hki ?_ hno
        by_cases hjk : j = k
        · subst hjk; exact hjun
        · rwa [getD_set_ne true hjk] at hun'
      · intro h5
        by_cases hjm : j = m
        · subst hjm
          exfalso
          have hlt : j < listed.size := by
            rcases Nat.lt_or_ge j listed.size with h' | h'
            · exact h'
            · simp [Array.getElem?_eq_none h'] at hjun
          rw [getD_set_self false hlt] at h5
          cases h5
        · rw [getD_set_ne false hjm] at h5
          exact hSj w' h3.2.1 hjm h5
      · rw [Array.setIfInBounds_comm _ _ hji]
        exact h3.2.2

theorem unl {listed : Array Bool} {i : Nat} {w' : World} (hi : i ∈ Region.ready md ops listed) (h : i ≠ m → listed.getD m false = false → S w') : (listed.setIfInBounds i true).getD m false = false → S w' := by
  intro h5
  by_cases hjm : i = m
  · subst hjm
    exfalso
    have hjun := (mem_ready.1 hi).1
    have hlt : i < listed.size := by
      rcases Nat.lt_or_ge i listed.size with h' | h'
      · exact h'
      · simp [Array.getElem?_eq_none h'] at hjun
    rw [getD_set_self false hlt] at h5
    cases h5
  · rw [getD_set_ne false hjm] at h5
    exact h hjm h5

/-- A way to walk a region: what is to be shown, what is to be checked, and that both suffice. -/
structure Tr (P : Program) (md : Region.Mode) (ops : Array Oper) (Q : Exit → Act → World → Prop) (S : World → Prop) (m : Nat) where
  wp : Act → World → Prop
  chk : Nat → Array Bool → Bool
  sound : Region.noSelect ops = true → (∀ c a w d v, Q (.panic c) (Act.put a d v) w → Q (.panic c) a w) →
    ∀ (f : Nat) (listed : Array Bool) (a : Act) (w : World), chk f listed = true → Closed md ops listed → (listed.getD m false = false → S w) → wp a w → wpAnyM P md ops Q S m f listed a w
def wpTr (t : Tr P md ops Q S m) (a : Act) (w : World) : Prop := t.wp a w

def Tr.nil : Tr P md ops Q S m where
  wp a w := Q .normal a w
  chk f listed := match f with
    | 0 => decide (Region.ready md ops listed = [])
    | _ + 1 => false
  sound := by
    intro _ _ f listed a w hB _ _ h
    cases f with
    | zero => exact ⟨of_decide_eq_true hB, h⟩
    | succ f => cases hB
def Tr.q (i : Nat) (s : Bool) (t : Tr P md ops Q S m) : Tr P md ops Q S m where
  wp a w := ∃ oi v, ops[i]? = some oi ∧ YieldsIf P ops (fun w => s = true → S w) oi v a ∧ wpTr t (a.put oi.dst v) w
  chk f listed := match f with
    | 0 => false
    | f + 1 => (Region.ready md ops listed).contains i && Region.free md ops listed i && (!s || Region.waitsFor md ops m i) && decide (i ≠ m) && t.chk f (listed.setIfInBounds i true)
  sound := by
    intro hsel hQ f listed a w hB inv hS h
    cases f with
    | zero => cases hB
    | succ f =>
      simp only [Bool.and_eq_true, Bool.or_eq_true, Bool.not_eq_true', decide_eq_true_eq] at hB
      obtain ⟨⟨⟨⟨hr, hf⟩, hw⟩, hne⟩, hB'⟩ := hB
      obtain ⟨oi, v, h0, hy, hK⟩ := h
      have hr' : i ∈ Region.ready md ops listed := by simpa using hr
      exact wpAnyM_first h0 (Region.noSelect_spec hsel) (fun h1 => by rcases hw with hw | hw; rw [h1] at hw; cases hw; exact hw) hne (fun c a w => hQ c a w oi.dst v) f listed a w inv (Region.free_spec h0 hf) hr' hy hS
        (t.sound hsel hQ f _ _ w hB' (inv.set hr') (fun h1 => hS (by rwa [getD_set_ne false hne] at h1)) hK)
def Tr.one (i : Nat) (s : Bool) (t : Tr P md ops Q S m) : Tr P md ops Q S m where
  wp a w := wpOp P ops Q i (fun a' w' => (s = true → S w') ∧ wpTr t a' w') a w
  chk f listed := match f with
    | 0 => false
    | f + 1 => decide (Region.ready md ops listed = [i]) && (s || i == m || listed.getD m false) && t.chk f (listed.setIfInBounds i true)
  sound := by
    intro hsel hQ f listed a w hB inv hS h
    cases f with
    | zero => cases hB
    | succ f =>
      simp only [Bool.and_eq_true, Bool.or_eq_true, decide_eq_true_eq, beq_iff_eq] at hB
      obtain ⟨⟨hr, hs⟩, hB'⟩ := hB
      refine ⟨fun h1 => (by rw [hr] at h1; cases h1), fun j hj => ?_⟩
      have hji : j = i := by rw [hr] at hj; simpa using hj
      subst hji
      have hmm : ∀ w', (s = true → S w') → j ≠ m → listed.getD m false = false → S w' := by
        intro w' h1 h2 h3
        rcases hs with (hs | hs) | hs
        · exact h1 hs
        · exact (h2 hs).elim
        · rw [h3] at hs; cases hs
      exact wpOp_mono (fun a' w' h' => ⟨hmm w' h'.1, t.sound hsel hQ f _ a' w' hB' (inv.set hj) (unl hj (hmm w' h'.1)) h'.2⟩) h
def Tr.two (i j : Nat) (t u : Tr P md ops Q S m) : Tr P md ops Q S m where
  wp a w := wpOp P ops Q i (fun a' w' => S w' ∧ wpTr t a' w') a w ∧ wpOp P ops Q j (fun a' w' => S w' ∧ wpTr u a' w') a w
  chk f listed := match f with
    | 0 => false
    | f + 1 => decide (Region.ready md ops listed = [i, j]) && t.chk f (listed.setIfInBounds i true) && u.chk f (listed.setIfInBounds j true)
  sound := by
    intro hsel hQ f listed a w hB inv hS h
    cases f with
    | zero => cases hB
    | succ f =>
      simp only [Bool.and_eq_true, decide_eq_true_eq] at hB
      obtain ⟨⟨hr, hB1⟩, hB2⟩ := hB
      refine ⟨fun h1 => (by rw [hr] at h1; cases h1), fun k hk => ?_⟩
      have hk2 : k = i ∨ k = j := by rw [hr] at hk; simpa using hk
      rcases hk2 with rfl | rfl
      · exact wpOp_mono (fun a' w' h' => ⟨fun _ _ => h'.1, t.sound hsel hQ f _ a' w' hB1 (inv.set hk) (fun _ => h'.1) h'.2⟩) h.1
      · exact wpOp_mono (fun a' w' h' => ⟨fun _ _ => h'.1, u.sound hsel hQ f _ a' w' hB2 (inv.set hk) (fun _ => h'.1) h'.2⟩) h.2
def Tr.three (i j k : Nat) (t u v : Tr P md ops Q S m) : Tr P md ops Q S m where
  wp a w := wpOp P ops Q i (fun a' w' => S w' ∧ wpTr t a' w') a w ∧ wpOp P ops Q j (fun a' w' => S w' ∧ wpTr u a' w') a w ∧ wpOp P ops Q k (fun a' w' => S w' ∧ wpTr v a' w') a w
  chk f listed := match f with
    | 0 => false
    | f + 1 => decide (Region.ready md ops listed = [i, j, k]) && t.chk f (listed.setIfInBounds i true) && u.chk f (listed.setIfInBounds j true) && v.chk f (listed.setIfInBounds k true)
  sound := by
    intro hsel hQ f listed a w hB inv hS h
    cases f with
    | zero => cases hB
    | succ f =>
      simp only [Bool.and_eq_true, decide_eq_true_eq] at hB
      obtain ⟨⟨⟨hr, hB1⟩, hB2⟩, hB3⟩ := hB
      refine ⟨fun h1 => (by rw [hr] at h1; cases h1), fun l hl => ?_⟩
      have hk2 : l = i ∨ l = j ∨ l = k := by rw [hr] at hl; simpa using hl
      rcases hk2 with rfl | rfl | rfl
      · exact wpOp_mono (fun a' w' h' => ⟨fun _ _ => h'.1, t.sound hsel hQ f _ a' w' hB1 (inv.set hl) (fun _ => h'.1) h'.2⟩) h.1
      · exact wpOp_mono (fun a' w' h' => ⟨fun _ _ => h'.1, u.sound hsel hQ f _ a' w' hB2 (inv.set hl) (fun _ => h'.1) h'.2⟩) h.2.1
      · exact wpOp_mono (fun a' w' h' => ⟨fun _ _ => h'.1, v.sound hsel hQ f _ a' w' hB3 (inv.set hl) (fun _ => h'.1) h'.2⟩) h.2.2

/-- The rule. -/
theorem wp_region_tree {id : Nat} {a : Act} {w : World} {l : List Oper} (m : Nat) (S : World → Prop) (t : Tr P .any l.toArray (NoPanic Q) S m) (hm : P.follows .mixedOrders = true)
    (hsel : Region.noSelect l.toArray = true) (hB : t.chk l.toArray.size (Array.replicate l.toArray.size false) = true)
    (hS : S w.drew)
    (h : wpTr t a w.drew) : (Code.region id l.toArray true).wp P Q a w := by
  refine wp_region_noPanic ?_
  have hQ : ∀ c a w d v, NoPanic Q (.panic c) (Act.put a d v) w → NoPanic Q (.panic c) a w := fun _ _ _ _ _ h => h
  refine wp_region_any hm (wpAny_of_M _ _ _ _ (t.sound hsel hQ _ _ a w.drew hB ?_ (fun _ => hS) h))
  intro j oj _ hl
  rw [getD_replicate_false] at hl
  cases hl

theorem wpTr_q {i : Nat} {s : Bool} {t : Tr P md ops Q S m} {a : Act} {w : World} {oi : Oper} {v : Value} (h0 : ops[i]? = some oi) (hg : oi.guard = none) (hy : ∀ w, (s = true → S w) → (execOp a.eval oi).run P w = .ok (.value v) w)
    (h : wpTr t (a.put oi.dst v) w) : wpTr (.q i s t) a w :=
  ⟨oi, v, h0, Or.inl ⟨by simp [Region.wanted, hg], hy⟩, h⟩
theorem wpTr_qf {i : Nat} {t : Tr P md ops Q S m} {a : Act} {w : World} {oi : Oper} {v : Value} (h0 : ops[i]? = some oi) (hg : oi.guard = none) (hy : ∀ w, (execOp a.eval oi).run P w = .ok (.value v) w)
    (h : wpTr t (a.put oi.dst v) w) : wpTr (.q i false t) a w := wpTr_q h0 hg (fun w _ => hy w) h
theorem wpTr_qt {i : Nat} {t : Tr P md ops Q S m} {a : Act} {w : World} {oi : Oper} {v : Value} (h0 : ops[i]? = some oi) (hg : oi.guard = none) (hy : ∀ w, S w → (execOp a.eval oi).run P w = .ok (.value v) w)
    (h : wpTr t (a.put oi.dst v) w) : wpTr (.q i true t) a w := wpTr_q h0 hg (fun w hw => hy w (hw rfl)) h
theorem wpOp_s {i : Nat} {a : Act} {w : World} {oi : Oper} {K : Act → World → Prop} (h0 : ops[i]? = some oi) (hg : oi.guard = none) (h : oi.wp P a w K Q) : wpOp P ops Q i K a w := by
  unfold wpOp
  simp only [h0]
  rw [if_pos (by simp [Region.wanted, hg])]
  exact Or.inl h
theorem wpTr_one {i : Nat} {s : Bool} {t : Tr P md ops Q S m} {a : Act} {w : World} {oi : Oper} (h0 : ops[i]? = some oi) (hg : oi.guard = none)
    (h : ∀ K : Act → World → Prop, Hid (∀ a' w', (s = true → S w') → wpTr t a' w' → K a' w') → oi.wp P a w K Q) : wpTr (.one i s t) a w := by
  show wpOp P ops Q i (fun a' w' => (s = true → S w') ∧ wpTr t a' w') a w
  exact wpOp_s h0 hg (h _ fun _ _ h1 h2 => ⟨h1, h2⟩)
theorem wpTr_two {i j : Nat} {t u : Tr P md ops Q S m} {a : Act} {w : World} {oi oj : Oper} (h0 : ops[i]? = some oi) (hg : oi.guard = none) (h1 : ops[j]? = some oj) (hg1 : oj.guard = none)
    (h : ∀ K : Act → World → Prop, Hid (∀ a' w', S w' → wpTr t a' w' → K a' w') → oi.wp P a w K Q)
    (k : ∀ K : Act → World → Prop, Hid (∀ a' w', S w' → wpTr u a' w' → K a' w') → oj.wp P a w K Q) : wpTr (.two i j t u) a w :=
  ⟨wpOp_s h0 hg (h _ fun _ _ h1 h2 => ⟨h1, h2⟩), wpOp_s h1 hg1 (k _ fun _ _ h1 h2 => ⟨h1, h2⟩)⟩
theorem wpTr_three {i j k : Nat} {t u v : Tr P md ops Q S m} {a : Act} {w : World} {oi oj ok : Oper} (h0 : ops[i]? = some oi) (hg : oi.guard = none) (h1 : ops[j]? = some oj) (hg1 : oj.guard = none) (h2 : ops[k]? = some ok) (hg2 : ok.guard = none)
    (h : ∀ K : Act → World → Prop, Hid (∀ a' w', S w' → wpTr t a' w' → K a' w') → oi.wp P a w K Q)
    (l : ∀ K : Act → World → Prop, Hid (∀ a' w', S w' → wpTr u a' w' → K a' w') → oj.wp P a w K Q)
    (n : ∀ K : Act → World → Prop, Hid (∀ a' w', S w' → wpTr v a' w' → K a' w') → ok.wp P a w K Q) : wpTr (.three i j k t u v) a w :=
  ⟨wpOp_s h0 hg (h _ fun _ _ h1 h2 => ⟨h1, h2⟩), wpOp_s h1 hg1 (l _ fun _ _ h1 h2 => ⟨h1, h2⟩), wpOp_s h2 hg2 (n _ fun _ _ h1 h2 => ⟨h1, h2⟩)⟩
theorem wpTr_nil {a : Act} {w : World} (h : Q .normal a w) : wpTr (.nil : Tr P md ops Q S m) a w := h
end
end Go
