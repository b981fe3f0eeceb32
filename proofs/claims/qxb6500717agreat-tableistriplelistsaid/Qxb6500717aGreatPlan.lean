/-
  A region that draws its order, walked by a plan: some operations yield their values in every world that meets S and are taken
  first where they are ready; at the others nothing else is ready.
-/
import Derived.Test.Qxb6500717aGreatReg
namespace Go
open Go.RowKit

section
variable {P : Program} {ops : Array Oper} {md : Region.Mode} {Q : Exit → Act → World → Prop} {S : World → Prop}

def wpPlan (P : Program) (ops : Array Oper) (Q : Exit → Act → World → Prop) (S : World → Prop) (n : Nat) : List (Nat × Bool) → Act → World → Prop
  | [], a, w => Q .normal a w
  | (i, true) :: pl, a, w => ∃ oi v, ops[i]? = some oi ∧ YieldsIf P ops S oi v a ∧ wpPlan P ops Q S n pl (a.put oi.dst v) w
  | (i, false) :: pl, a, w => wpOp P ops Q i (fun a' w' => (i < n → S w') ∧ wpPlan P ops Q S n pl a' w') a w

def planB (md : Region.Mode) (ops : Array Oper) (n : Nat) : List (Nat × Bool) → Array Bool → Bool
  | [], listed => decide (Region.ready md ops listed = [])
  | (i, true) :: pl, listed => (Region.ready md ops listed).contains i && Region.free md ops listed i && decide (i < n) && planB md ops n pl (listed.setIfInBounds i true)
  | (i, false) :: pl, listed => decide (Region.ready md ops listed = [i]) && (decide (i < n) || pl.all (fun x => !x.2)) && planB md ops n pl (listed.setIfInBounds i true)

theorem wpAnyR_plan {n : Nat} (hsel : Region.noSelect ops = true) (hs : Region.sinkB md ops n = true) (hc : Region.chainB md ops n = true) (hn : n < ops.size)
    (hQ : ∀ c a w d v, Q (.panic c) (Act.put a d v) w → Q (.panic c) a w) :
    ∀ (pl : List (Nat × Bool)) (listed : Array Bool) (a : Act) (w : World), planB md ops n pl listed = true → ((HeadInv md ops n listed ∧ S w) ∨ pl.all (fun x => !x.2) = true) → wpPlan P ops Q S n pl a w → wpAnyR P md ops Q S n pl.length listed a w
  | [], listed, a, w, hB, _, h => ⟨of_decide_eq_true hB, h⟩
  | (i, true) :: pl, listed, a, w, hB, hI, h => by
    obtain ⟨oi, v, h0, hy, hK⟩ := h
    simp only [planB, Bool.and_eq_true] at hB
    obtain ⟨⟨⟨hr, hf⟩, hin⟩, hB'⟩ := hB
    rcases hI with ⟨inv, hS⟩ | hI
    · have hr' : i ∈ Region.ready md ops listed := by simpa using hr
      have hin' := of_decide_eq_true hin
      exact wpAnyR_first h0 (Region.noSelect_spec hsel) hs hc hn hin' (fun c a w => hQ c a w oi.dst v) pl.length listed a w inv (Region.free_spec h0 hf) hr' hy hS
        (wpAnyR_plan hsel hs hc hn hQ pl _ _ w hB' (Or.inl ⟨inv.set hr' hin', hS⟩) hK)
    · simp at hI
  | (i, false) :: pl, listed, a, w, hB, hI, h => by
    simp only [planB, Bool.and_eq_true] at hB
    obtain ⟨⟨hr, hlast⟩, hB'⟩ := hB
    have hr' := of_decide_eq_true hr
    refine ⟨fun h1 => (by rw [hr'] at h1; cases h1), fun j hj => ?_⟩
    have hji : j = i := by rw [hr'] at hj; simpa using hj
    subst hji
    refine wpOp_mono (fun a' w' h' => ⟨h'.1, wpAnyR_plan hsel hs hc hn hQ pl _ a' w' hB' ?_ h'.2⟩) h
    by_cases hjn : j < n
    · rcases hI with ⟨inv, hS⟩ | hI
      · exact Or.inl ⟨inv.set hj hjn, h'.1 hjn⟩
      · refine Or.inr ?_
        simp at hI ⊢
        exact hI
    · refine Or.inr ?_
      simpa [hjn] using hlast

/-- The rule. -/
theorem wp_region_plan {id : Nat} {a : Act} {w : World} {l : List Oper} (n : Nat) (S : World → Prop) (pl : List (Nat × Bool)) (hm : P.follows .mixedOrders = true)
    (hsel : Region.noSelect l.toArray = true) (hs : Region.sinkB .any l.toArray n = true) (hc : Region.chainB .any l.toArray n = true) (hn : decide (n < l.toArray.size ∧ pl.length = l.toArray.size) = true)
    (hB : planB .any l.toArray n pl (Array.replicate l.toArray.size false) = true)
    (hS : S w.drew)
    (h : wpPlan P l.toArray (NoPanic Q) S n pl a w.drew) : (Code.region id l.toArray true).wp P Q a w := by
  refine wp_region_noPanic ?_
  have hQ : ∀ c a w d v, NoPanic Q (.panic c) (Act.put a d v) w → NoPanic Q (.panic c) a w := fun _ _ _ _ _ h => h
  obtain ⟨hn1, hlen⟩ := of_decide_eq_true hn
  have inv0 : HeadInv .any l.toArray n (Array.replicate l.toArray.size false) :=
    ⟨by simp, fun j oj _ hl => (by rw [getD_replicate_false] at hl; cases hl), fun t _ ht => getD_in (by simpa using ht) (getD_replicate_false _ _)⟩
  have H := wpAnyR_plan (md := .any) (P := P) (S := S) hsel hs hc hn1 hQ pl _ a w.drew hB (Or.inl ⟨inv0, hS⟩) h
  refine wp_region_any hm ?_
  have := wpAny_of_R _ _ _ _ H
  rw [hlen] at this
  exact this

theorem wpPlan_q {n i : Nat} {pl : List (Nat × Bool)} {a : Act} {w : World} {oi : Oper} {v : Value} (h0 : ops[i]? = some oi) (hg : oi.guard = none) (hy : ∀ w, S w → (execOp a.eval oi).run P w = .ok (.value v) w)
    (h : wpPlan P ops Q S n pl (a.put oi.dst v) w) : wpPlan P ops Q S n ((i, true) :: pl) a w :=
  ⟨oi, v, h0, Or.inl ⟨by simp [Region.wanted, hg], hy⟩, h⟩
theorem wpPlan_s {n i : Nat} {pl : List (Nat × Bool)} {a : Act} {w : World} {oi : Oper} (h0 : ops[i]? = some oi) (hg : oi.guard = none)
    (h : ∀ K : Act → World → Prop, Hid (∀ a' w', (i < n → S w') → wpPlan P ops Q S n pl a' w' → K a' w') → oi.wp P a w K Q) : wpPlan P ops Q S n ((i, false) :: pl) a w := by
  show wpOp P ops Q i _ a w
  unfold wpOp
  simp only [h0]
  rw [if_pos (by simp [Region.wanted, hg])]
  exact Or.inl (h _ fun _ _ h1 h2 => ⟨h1, h2⟩)
theorem wpPlan_nil {n : Nat} {a : Act} {w : World} (h : Q .normal a w) : wpPlan P ops Q S n [] a w := h
end
end Go
