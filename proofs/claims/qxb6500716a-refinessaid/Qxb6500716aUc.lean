/-
  Plain: the table holds cells of the floor; blocked is the planner's test.
-/
import Derived.Test.Qxb6500716aMb
namespace Go.Proofs.Qxb6500716a
open Go.RowKit Go.Maps
set_option linter.unusedSimpArgs false
set_option linter.unusedVariables false
set_option maxRecDepth 20000
set_option maxHeartbeats 4000000
/-- Every entry is a cell. -/
def TS.Cel (T : TS) : Prop := ∀ a b : Int, T.at a b < (T.nc : Int)
theorem Cel.put {T : TS} {r c t : Int} (h : T.Cel) (hp : T.place r c t = 0) : (T.put r c t).Cel := fun a b => by
  rw [put_at]
  split
  · exact (place_ok hp).2.1.2
  · exact h a b
theorem Cel.trunc {T : TS} {r t : Int} (h : T.Cel) (hr : 0 ≤ r) : (T.trunc r t).Cel := fun a b => by
  rw [trunc_at hr]
  split
  · show (-1 : Int) < (T.nc : Int)
    omega
  · exact h a b
theorem Cel.adv {T : TS} (h : T.Cel) (t : Int) : (T.adv t).2.Cel := by
  unfold TS.adv
  split
  · exact h
  · split
    · exact h
    · intro a b
      simp only
      rw [adv_at]
      split
      · show (-1 : Int) < (T.nc : Int)
        omega
      · exact h a b
theorem Cel.sit {T : TS} {r c t : Int} (h : T.Cel) (hp : T.place r c t = 0) : (T.sit r c t).Cel := fun a b => by
  obtain ⟨h1, h2, h3⟩ := place_ok hp
  rcases sit_at (T := T) h1.1 h2.1 (by omega : 0 ≤ t) a b with e | ⟨-, -, e⟩
  · rw [e]; exact h a b
  · rw [e]; exact h2.2
theorem Cel.stand {T : TS} (h : T.Cel) (r c t : Int) : (T.stand r c t).2.Cel := by
  unfold TS.stand
  split
  · exact h
  · rename_i h1
    split
    · exact h
    · split
      · exact h
      · unfold TS.stand3
        split
        · exact h
        · split
          · exact h
          · exact Cel.sit h (by omega)
theorem Cel.reserve {T : TS} (h : T.Cel) (r c t : Int) : (T.reserve r c t).2.Cel := by
  by_cases e : (T.reserve r c t).1 = 0
  · obtain ⟨h1, -, -, h4, -⟩ := res_ok e
    rw [h4]
    exact Cel.put h h1
  · rw [res_no e]; exact h
theorem Cel.pathGo {T0 : TS} (h0 : T0.Cel) (r s : Int) : ∀ (l : List Int) (i : Nat) (T : TS), T.Cel → (T0.pathGo r s i l T).2.2.Cel
  | [], i, T, h => h
  | c :: l, i, T, h => by
    rw [TS.pathGo]
    split
    · exact h0
    · exact Cel.pathGo h0 r s l (i + 1) _ (Cel.reserve h r c (s + i))
theorem Cel.path {T : TS} (h : T.Cel) (r s : Int) (l : List Int) : (T.path r s l).2.2.Cel := Cel.pathGo h r s l 0 T h
theorem Cel.cutC {T : TS} (h : T.Cel) (r t : Int) : (T.cutC r t).2.2.Cel := by
  unfold TS.cutC
  split
  · rename_i e
    unfold TS.rOk at e
    simp at e
    exact Cel.trunc h e.1
  · exact h
theorem Cel.enter {T : TS} (h : T.Cel) {r t : Int} (hr : 0 ≤ r) (path : List Int) : (T.enter r t path).2.Cel := by
  unfold TS.enter
  split
  · exact h
  · split
    · exact Cel.path (Cel.trunc h hr) _ _ _
    · split <;> exact Cel.stand (Cel.path (Cel.trunc h hr) _ _ _) _ _ _
theorem Cel.new {nc nr cap : Nat} : (TS.new nc nr cap).Cel := fun a b => by
  show (-1 : Int) < (nc : Int)
  omega
theorem Cel.stN {T : TS} (h : T.Cel) (F : FS) : ∀ i, (stN F T i).Cel
  | 0 => h
  | i + 1 => Cel.stand (Cel.stN h F i) _ _ _
theorem Cel.plan {F : FS} {T : TS} {q : Rq} {S : PS} (h : T.Cel) (hF : FOk F) : (PS.plan F T q S).2.1.Cel := by
  unfold PS.plan
  split
  · rename_i hc
    exact Cel.enter h (rok_of hF (search_c0 hc)).r.1 _
  · exact h
def Dk.cel (D : Dk) : Prop := ∀ X, D.W = some X → X.T.Cel
theorem step_cel (D : Dk) (o : Opr) (h : D.cel) (hF : ∀ X, D.W = some X → FOk X.F) : (D.step o).1.cel := by
  intro Y hY
  unfold Dk.step at hY
  by_cases h0 : o.K = 0
  · rw [if_pos h0] at hY
    unfold wldAns at hY
    split at hY
    · exact h Y hY
    · split at hY
      · exact h Y hY
      · simp only [Option.some.injEq] at hY
        rw [← hY]
        exact Cel.stN Cel.new _ _
  · rw [if_neg h0] at hY
    cases hW : D.W with
    | none =>
      rw [hW] at hY
      exact h Y hY
    | some X =>
      have hX := h X hW
      have hn : D.no.W = some Y → Y.T.Cel := fun e => h Y e
      rw [hW] at hY
      simp only at hY
      split at hY
      · simp only [Option.some.injEq] at hY
        rw [← hY]
        exact Cel.adv hX _
      split at hY
      · simp only [Option.some.injEq] at hY
        rw [← hY]
        exact Cel.path hX _ _ _
      split at hY
      · simp only [Option.some.injEq] at hY
        rw [← hY]
        exact Cel.stand hX _ _ _
      split at hY
      · simp only [Option.some.injEq] at hY
        rw [← hY]
        exact Cel.cutC hX _ _
      split at hY
      · split at hY
        · exact hn hY
        · simp only [Option.some.injEq] at hY
          rw [← hY]
          exact Cel.plan hX (hF X hW)
      split at hY
      · split at hY
        · exact hn hY
        · simp only [Option.some.injEq] at hY
          rw [← hY]
          exact hX
      split at hY
      · exact hn hY
      · exact hn hY
theorem blkF_no {T : TS} {q : Rq} {pv : Int} : ∀ (n k : Nat), T.blkF q pv k n = false ↔ ∀ j : Nat, k ≤ j → j < k + n → (j : Int) ≠ q.r → T.blk1 q pv j = false
  | 0, k => by
    rw [TS.blkF]
    exact ⟨fun _ j h1 h2 => by omega, fun _ => rfl⟩
  | n + 1, k => by
    rw [TS.blkF]
    have ih := blkF_no (T := T) (q := q) (pv := pv) n (k + 1)
    constructor
    · intro h j h1 h2 hr
      split at h
      · cases h
      · rename_i e
        by_cases ej : j = k
        · rw [ej] at hr ⊢
          cases hb : T.blk1 q pv k with
          | false => rfl
          | true => exact absurd ⟨hr, hb⟩ e
        · exact ih.1 h j (by omega) (by omega) hr
    · intro h
      rw [if_neg (fun e => by
        have := h k (by omega) (by omega) e.1
        rw [e.2] at this
        cases this)]
      exact ih.2 (fun j h1 h2 hr => h j (by omega) (by omega) hr)
theorem freeC_of {T : TS} {r c t : Int} (hr : 0 ≤ r ∧ r < (T.nr : Int)) (hc : 0 ≤ c ∧ c < (T.nc : Int)) (ht : (T.base : Int) ≤ t ∧ t < 1099511627776) (h : ∀ j : Nat, j < T.nr → (j : Int) ≠ r → T.at j t ≠ c) : T.freeC r c t = true := by
  unfold TS.freeC TS.rOk TS.cOk TS.askOk
  have : T.hold c t = -1 ∨ T.hold c t = r := by
    by_cases e : T.hold c t = -1
    · exact Or.inl e
    · obtain ⟨j, h1, h2, h3⟩ := hold_yes e
      by_cases ej : (j : Int) = r
      · exact Or.inr (by omega)
      · exact absurd h3 (h j h2 ej)
  simp [hr, hc, ht, this]
theorem freeM_of {T : TS} {r a b t : Int} (hr : 0 ≤ r ∧ r < (T.nr : Int)) (ha : 0 ≤ a ∧ a < (T.nc : Int)) (hb : 0 ≤ b ∧ b < (T.nc : Int)) (ht : (T.base : Int) ≤ t ∧ t + 1 < 1099511627776) (h : ∀ j : Nat, j < T.nr → (j : Int) ≠ r → T.at j (t + 1) ≠ b ∧ ¬ (a ≠ b ∧ T.at j t = b ∧ T.at j (t + 1) = a)) : T.freeM r a b t = true := by
  have h1 := freeC_of hr hb (t := t + 1) ⟨by omega, by omega⟩ (fun j h1 h2 => (h j h1 h2).1)
  unfold TS.freeM TS.cOk TS.askOk
  have h2 : a = b ∨ T.hold b t = -1 ∨ T.hold b t = r ∨ T.at (T.hold b t) (t + 1) ≠ a := by
    by_cases e : a = b
    · exact Or.inl e
    · by_cases e2 : T.hold b t = -1
      · exact Or.inr (Or.inl e2)
      · obtain ⟨j, h3, h4, h5⟩ := hold_yes e2
        by_cases ej : (j : Int) = r
        · exact Or.inr (Or.inr (Or.inl (by omega)))
        · refine Or.inr (Or.inr (Or.inr ?_))
          rw [h3]
          intro e3
          exact (h j h4 ej).2 ⟨e, h5, e3⟩
  have h3 : t < 1099511627776 := by omega
  simp only [h1, Bool.true_and, Bool.and_eq_true, decide_eq_true_eq, Bool.or_eq_true]
  exact ⟨ha, ⟨ht.1, h3⟩, h2⟩
theorem spAt_ge (a b : Int) : ∀ l : List Sg, -1 ≤ spAt l a b
  | [] => by simp [spAt]
  | x :: l => by
    rw [spAt]
    split
    · omega
    · exact spAt_ge a b l
theorem at_ge {T : TS} (hm : MBd T.tm) (a b : Int) : -1 ≤ T.at a b := by
  unfold TS.at
  split
  · rename_i x hx
    have := hm.x _ _ _ hx
    omega
  · exact spAt_ge a b T.sp
/-- 'blocked' is what the planner's own test says. -/
theorem blk_free {F : FS} {T : TS} {q : Rq} (hF : FOk F) (hT : TInv T) (hC : T.Cel) (hnr : T.nr = F.bays.length) (hnc : T.nc = F.n) (h0 : rcode F T q = 0) : T.blk q F.bays.length = !T.sfree q := by
  have hrk := rok_of hF h0
  have hr := hrk.r
  have hs := hrk.s
  have ht := hrk.t
  have hb := hT.base
  have key : T.blk q F.bays.length = false ↔ T.sfree q = true := by
    unfold TS.blk
    rw [blkF_no]
    constructor
    · intro h
      have h' : ∀ j : Nat, j < T.nr → (j : Int) ≠ q.r → T.blk1 q (T.at q.r (q.t - 1)) j = false := fun j h1 h2 => h j (by omega) (by omega) h2
      unfold TS.sfree
      by_cases e : T.at q.r (q.t - 1) = -1
      · rw [if_neg (by simp [e])]
        refine freeC_of (by omega) (by omega) ⟨ht.1, by omega⟩ (fun j h1 h2 => ?_)
        have := h' j h1 h2
        unfold TS.blk1 at this
        simp at this
        exact this.1
      · rw [if_pos e]
        have hge : (T.base : Int) ≤ q.t - 1 := by
          rcases Int.lt_or_le (q.t - 1) (T.base : Int) with h1 | h1
          · exact absurd (hT.old _ _ h1) e
          · exact h1
        have h3 := hC q.r (q.t - 1)
        have h4 : 0 ≤ T.at q.r (q.t - 1) := by
          have := at_ge (T := T) hT.m q.r (q.t - 1)
          omega
        refine freeM_of (by omega) ⟨h4, h3⟩ (by omega) ⟨hge, by omega⟩ (fun j h1 h2 => ?_)
        have := h' j h1 h2
        unfold TS.blk1 at this
        rw [show q.t - 1 + 1 = q.t by omega]
        simp at this
        exact ⟨this.1, fun ⟨a1, a2, a3⟩ => this.2 e a1 a2 a3⟩
    · intro h j h1 h2 hjr
      unfold TS.sfree at h
      unfold TS.blk1
      split at h
      · rename_i e
        have := freeM_at hT h j (by omega) hjr
        rw [show q.t - 1 + 1 = q.t by omega] at this
        simp
        exact ⟨this.1, fun _ a2 a3 a4 => this.2 ⟨a2, a3, a4⟩⟩
      · rename_i e
        have := freeC_at hT h j (by omega) hjr
        simp at e
        simp [e]
        exact this
  cases h1 : T.blk q F.bays.length with
  | false => rw [key.1 h1]; rfl
  | true =>
    cases h2 : T.sfree q with
    | false => rfl
    | true =>
      rw [key.2 h2] at h1
      cases h1
end Go.Proofs.Qxb6500716a
