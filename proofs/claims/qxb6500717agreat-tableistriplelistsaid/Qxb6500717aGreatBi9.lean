/-
  The desk and the model answer alike, step for step.
-/
import Derived.Test.Qxb6500717aGreatBi8
namespace Go.Proofs.Qxb6500717aGreat
open Go.RowKit
set_option linter.unusedSimpArgs false
set_option linter.unusedVariables false

def RelT (O : Option TabS) (S : MdS) : Prop := match O with
  | none => S.has = false
  | some T => S.has = true ∧ RT T S
structure Rel (Q : DkS) (M : ModS) : Prop where
  tab : RelT Q.O M.S
  hp : RH Q.L Q.nx M.H M.px
  mks : RK Q.S M.ms M.mf M.mn
section
variable {T : TabS} {S : MdS}
theorem reserve_has (r c t : Int) : (S.reserve r c t).2.has = S.has := by
  by_cases h0 : (S.reserve r c t).1 = 0
  · obtain ⟨rn, cn, tn, -, -, -, -, -, -, -, -, -, -, -, e⟩ := MdS.reserve_yes h0
    rw [e]; rfl
  · rw [MdS.reserve_no h0]
theorem path_has (r start : Int) (bt : List (Nat × Nat × Nat)) : ∀ (cs : List Int) (i : Nat) (S : MdS), (MdS.path r start bt cs i S).2.2.has = S.has := by
  intro cs
  induction cs with
  | nil => intro i S; rfl
  | cons c cs ih =>
    intro i S
    simp only [MdS.path]
    split
    · rw [ih, reserve_has]
    · rfl
theorem stand_has (r c t : Int) : (S.stand r c t).2.has = S.has := by
  by_cases h0 : (S.stand r c t).1 = 0
  · obtain ⟨rn, cn, tn, -, -, -, -, -, -, -, -, -, -, e⟩ := MdS.stand_yes h0
    rw [e]; rfl
  · rw [MdS.stand_no h0]
theorem advance_has (t : Int) : (S.advance t).2.has = S.has := by
  unfold MdS.advance
  split
  · rfl
  · split <;> rfl
theorem qTrunc_has (r t : Int) : (S.qTrunc r t).2.has = S.has := by
  unfold MdS.qTrunc
  split <;> rfl
theorem cutA_cutT (r t : Int) : (T.cutA r t).2.2 = (T.cutT r t).2 := by
  unfold TabS.cutA TabS.cutT
  split <;> rfl
/-- A step on a table. -/
theorem RT.step (h : RT T S) (g : Fit T) (o : Opr) : (T.stepA o).1 = (S.stepA o).1 ∧ RT (T.stepA o).2 (S.stepA o).2 ∧ (S.stepA o).2.has = S.has ∧ (T.stepA o).2 = (T.step o).2 := by
  obtain ⟨K, A, B, C, D, L⟩ := o
  by_cases hl : 1 ≤ K ∧ K ≤ 13
  · rcases (by omega : K = 1 ∨ K = 2 ∨ K = 3 ∨ K = 4 ∨ K = 5 ∨ K = 6 ∨ K = 7 ∨ K = 8 ∨ K = 9 ∨ K = 10 ∨ K = 11 ∨ K = 12 ∨ K = 13) with rfl | rfl | rfl | rfl | rfl | rfl | rfl | rfl | rfl | rfl | rfl | rfl | rfl
    · obtain ⟨h1, h2⟩ := h.advance g C
      refine ⟨?_, h2, advance_has C, rfl⟩
      show (T.advC C, ([] : List Int)) = ((S.advance C).1, [])
      rw [h1]
    · obtain ⟨h1, h2⟩ := h.reserve g A B C
      refine ⟨?_, h2, reserve_has A B C, rfl⟩
      show ((T.reserve A B C).1, ([] : List Int)) = ((S.reserve A B C).1, [])
      rw [h1]
    · obtain ⟨h1, h2, h3⟩ := h.path g A C L
      refine ⟨?_, h3, path_has A C S.tr L 0 S, rfl⟩
      show ((TabS.path A C L 0 T).1, [((TabS.path A C L 0 T).2.1 : Int)]) = ((MdS.path A C S.tr L 0 S).1, [((MdS.path A C S.tr L 0 S).2.1 : Int)])
      rw [h1, h2]
    · obtain ⟨h1, h2⟩ := h.stand g A B C
      refine ⟨?_, h2, stand_has A B C, rfl⟩
      show ((T.stand A B C).1, ([] : List Int)) = ((S.stand A B C).1, [])
      rw [h1]
    · obtain ⟨h1, h2⟩ := h.qTrunc g A T.base
      have hb := h.base
      refine ⟨?_, ?_, ?_, cutA_cutT A T.base⟩
      · show ((T.cutA A T.base).1, cutV (T.cutA A T.base)) = (S.qTrunc A S.base).1
        rw [hb, h1]
      · show RT (T.cutA A T.base).2.2 (S.qTrunc A S.base).2
        rw [hb]; exact h2
      · exact qTrunc_has A S.base
    · obtain ⟨h1, h2⟩ := h.qTrunc g A C
      exact ⟨h1.symm, h2, qTrunc_has A C, cutA_cutT A C⟩
    · refine ⟨?_, h, rfl, rfl⟩
      show ((0 : Int), [T.holdQ B C]) = (0, [S.qHold B C])
      rw [h.qHold g]
    · refine ⟨?_, h, rfl, rfl⟩
      show ((0 : Int), [T.atQ A C]) = (0, [S.qAt A C])
      rw [h.qAt g]
    · refine ⟨?_, h, rfl, rfl⟩
      show ((0 : Int), [flg (T.freeC A B C)]) = (0, [fl (S.freeC A B C)])
      rw [h.freeC g]; rfl
    · refine ⟨?_, h, rfl, rfl⟩
      show ((0 : Int), [flg (T.freeM A B D C)]) = (0, [fl (S.qMove A B D C)])
      rw [h.qMove g]; rfl
    · refine ⟨?_, h, rfl, rfl⟩
      show ((0 : Int), [flg (T.freeF A B C)]) = (0, [fl (S.qFrom A B C)])
      rw [h.qFrom g]; rfl
    · refine ⟨?_, h, rfl, rfl⟩
      show ((0 : Int), [(T.held : Int), (T.cap : Int), (T.base : Int)]) = (0, [(S.tr.length : Int) + S.sp.length, (S.cap : Int), (S.base : Int)])
      rw [h.held g, h.cap, h.base]
      simp
    · refine ⟨?_, h, rfl, rfl⟩
      show ((0 : Int), [(T.removQ A C : Int)]) = (0, [((cntTr A C S.tr + cntSp A C S.sp : Nat) : Int)])
      rw [h.removQ g]
  · have e1 : T.stepA ⟨K, A, B, C, D, L⟩ = ((2, []), T) := by
      simp only [TabS.stepA]
      rw [if_neg (by omega), if_neg (by omega), if_neg (by omega), if_neg (by omega), if_neg (by omega), if_neg (by omega), if_neg (by omega), if_neg (by omega), if_neg (by omega), if_neg (by omega), if_neg (by omega), if_neg (by omega), if_neg (by omega)]
    have e2 : S.stepA ⟨K, A, B, C, D, L⟩ = ((2, []), S) := by
      simp only [MdS.stepA]
      rw [if_neg (by omega), if_neg (by omega), if_neg (by omega), if_neg (by omega), if_neg (by omega), if_neg (by omega), if_neg (by omega), if_neg (by omega), if_neg (by omega), if_neg (by omega), if_neg (by omega), if_neg (by omega), if_neg (by omega)]
    have e3 : (T.step ⟨K, A, B, C, D, L⟩).2 = T := by
      simp only [TabS.step]
      rw [if_neg (by omega), if_neg (by omega), if_neg (by omega), if_neg (by omega), if_neg (by omega), if_neg (by omega), if_neg (by omega)]
    rw [e1, e2, e3]
    exact ⟨rfl, h, rfl, rfl⟩
end
theorem headA_least {L H : List Ent} {nx px : Nat} (h : RH L nx H px) (hh : isHeap L) {i : Nat} (hi : isLeast H i) : L ≠ [] ∧ headA L = (0, [(at0 H i).1, (at0 H i).2.1, (at0 H i).2.2.1]) := by
  have hne : L ≠ [] := fun e => by
    have := h.nil.1 e
    have h1 := hi.1
    rw [this] at h1
    simp at h1
  refine ⟨hne, ?_⟩
  unfold headA
  rw [if_neg hne, h.least hh hne hi]
theorem bisim {Q : DkS} {M : ModS} (h : Rel Q M) (g : ∀ T, Q.O = some T → Fit T) (hh : isHeap Q.L) (o : Opr) {X : (Int × List Int) × DkS} {Y : (Int × List Int) × ModS} (hx : dkRel Q o X) (hy : mdRel M o Y) :
    X.1 = Y.1 ∧ Rel X.2 Y.2 ∧ X.2.O = (stepO Q.O o).2 := by
  obtain ⟨K, A, B, C, D, L⟩ := o
  unfold dkRel at hx
  unfold mdRel at hy
  simp only at hx hy
  by_cases h14 : 14 ≤ K ∧ K ≤ 23
  · have eO : (stepO Q.O ⟨K, A, B, C, D, L⟩).2 = Q.O := by simp only [stepO]; rw [if_neg (by omega), if_pos h14]
    rw [eO]
    rcases (by omega : K = 14 ∨ K = 15 ∨ K = 16 ∨ K = 17 ∨ K = 18 ∨ K = 19 ∨ K = 20 ∨ K = 21 ∨ K = 22 ∨ K = 23) with rfl | rfl | rfl | rfl | rfl | rfl | rfl | rfl | rfl | rfl
    · rw [if_pos rfl] at hx
      rw [if_neg (by omega), if_neg (by omega)] at hy
      obtain ⟨h1, p1, p2, p3, p4⟩ := hx
      rw [hy, h1]
      refine ⟨rfl, ⟨?_, ?_, ?_⟩, p1⟩
      · rw [p1]; exact h.tab
      · rw [p3]; exact h.hp.push p4
      · rw [p2]; exact h.mks
    · rw [if_neg (by omega), if_pos rfl] at hx
      rw [if_pos rfl] at hy
      obtain ⟨h1, p1, p2, p3, p4⟩ := hx
      rw [h1]
      rcases hy with ⟨y1, rfl⟩ | ⟨i, y1, rfl⟩
      · have hL := h.hp.nil.2 y1
        rcases p4 with ⟨q1, q2⟩ | ⟨q1, -⟩
        · refine ⟨by unfold headA; rw [if_pos hL], ⟨by rw [p1]; exact h.tab, ?_, by rw [p2]; exact h.mks⟩, p1⟩
          rw [q2, p3]
          have := h.hp
          rw [hL] at this
          exact this
        · exact absurd hL q1
      · obtain ⟨hne, he⟩ := headA_least h.hp hh y1
        rcases p4 with ⟨q1, -⟩ | ⟨-, q2⟩
        · exact absurd q1 hne
        · refine ⟨he, ⟨by rw [p1]; exact h.tab, ?_, by rw [p2]; exact h.mks⟩, p1⟩
          rw [p3]
          exact h.hp.pop hh hne y1 q2
    · rw [if_neg (by omega), if_neg (by omega)] at hx
      rw [if_neg (by omega), if_pos rfl] at hy
      subst hx
      show headA Q.L = _ ∧ Rel Q _ ∧ _
      rcases hy with ⟨y1, rfl⟩ | ⟨i, y1, rfl⟩
      · exact ⟨by unfold headA; rw [if_pos (h.hp.nil.2 y1)], h, rfl⟩
      · exact ⟨(headA_least h.hp hh y1).2, h, rfl⟩
    · rw [if_neg (by omega), if_neg (by omega)] at hx hy
      subst hx hy
      refine ⟨?_, h, rfl⟩
      show ((0 : Int), [(Q.L.length : Int)]) = (0, [(M.H.length : Int)])
      rw [h.hp.pm.length_eq]
    · rw [if_neg (by omega), if_neg (by omega)] at hx hy
      subst hx hy
      exact ⟨rfl, ⟨h.tab, RH.empty, h.mks⟩, rfl⟩
    · rw [if_neg (by omega), if_neg (by omega)] at hx hy
      subst hx hy
      show ((minitD Q A).1, ([] : List Int)) = ((M.minit A).1, []) ∧ Rel (minitD Q A).2 (M.minit A).2 ∧ (minitD Q A).2.O = Q.O
      unfold minitD ModS.minit
      by_cases ha : 0 ≤ A ∧ A ≤ 4096
      · rw [if_pos ha, if_pos ha]; exact ⟨rfl, ⟨h.tab, h.hp, RK.new _⟩, rfl⟩
      · rw [if_neg ha, if_neg ha]; exact ⟨rfl, h, rfl⟩
    · rw [if_neg (by omega), if_neg (by omega)] at hx hy
      subst hx hy
      obtain ⟨h1, h2⟩ := h.mks.mark rfl rfl rfl A B
      have e1 : (M.mark A B).2.S = M.S ∧ (M.mark A B).2.H = M.H ∧ (M.mark A B).2.px = M.px := by unfold ModS.mark; split <;> exact ⟨rfl, rfl, rfl⟩
      refine ⟨?_, ⟨?_, ?_, h2⟩, rfl⟩
      · show (okC (Q.S.markX A B).1, ([] : List Int)) = ((M.mark A B).1, [])
        rw [h1]
      · show RelT Q.O (M.mark A B).2.S
        rw [e1.1]; exact h.tab
      · show RH Q.L Q.nx (M.mark A B).2.H (M.mark A B).2.px
        rw [e1.2.1, e1.2.2]; exact h.hp
    · rw [if_neg (by omega), if_neg (by omega)] at hx hy
      subst hx hy
      exact ⟨h.mks.look A, h, rfl⟩
    · rw [if_neg (by omega), if_neg (by omega)] at hx hy
      subst hx hy
      refine ⟨?_, h, rfl⟩
      show ((0 : Int), [(Q.S.cn : Int)]) = (0, [(M.mn : Int)])
      rw [h.mks.cn]
    · rw [if_neg (by omega), if_neg (by omega)] at hx hy
      subst hx hy
      refine ⟨rfl, ⟨h.tab, h.hp, ?_⟩, rfl⟩
      obtain ⟨j, hj⟩ : ∃ j, clrCount A = j + 1 := by
        unfold clrCount
        split
        · exact ⟨0, rfl⟩
        · split
          · exact ⟨599, rfl⟩
          · exact ⟨A.toNat - 1, by omega⟩
      show RK (clrN (clrCount A) Q.S) M.ms (fun _ => none) 0
      rw [hj]
      exact h.mks.clrN j
  · rw [if_neg (by omega), if_neg (by omega)] at hx hy
    by_cases h0 : K = 0
    · subst h0
      subst hx hy
      show ((stepNew Q.O A B C).1, ([] : List Int)) = ((M.S.init A B C).1, []) ∧ Rel { Q with O := (stepNew Q.O A B C).2 } { M with S := (M.S.init A B C).2 } ∧ (stepNew Q.O A B C).2 = _
      have e3 : (stepO Q.O ⟨0, A, B, C, D, L⟩).2 = (stepNew Q.O A B C).2 := rfl
      rw [e3]
      unfold stepNew MdS.init newOk
      by_cases hi : 1 ≤ A ∧ A ≤ 150 ∧ 1 ≤ B ∧ B ≤ 6 ∧ 1 ≤ C ∧ C ≤ 1536
      · rw [if_pos hi, if_pos (by simp; omega)]
        exact ⟨rfl, ⟨⟨rfl, RT.new _ _ _⟩, h.hp, h.mks⟩, rfl⟩
      · rw [if_neg hi, if_neg (by simp; omega)]
        exact ⟨rfl, h, rfl⟩
    · have e1 : dkFun Q ⟨K, A, B, C, D, L⟩ = (match Q.O with | none => ((1, []), Q) | some T => ((T.stepA ⟨K, A, B, C, D, L⟩).1, { Q with O := some (T.stepA ⟨K, A, B, C, D, L⟩).2 })) := by
        simp only [dkFun]
        rw [if_neg h0, if_neg (by omega), if_neg (by omega), if_neg (by omega), if_neg (by omega), if_neg (by omega), if_neg (by omega), if_neg (by omega), if_neg (by omega)]
        rfl
      have e2 : mdFun M ⟨K, A, B, C, D, L⟩ = if M.S.has = false then ((1, []), M) else ((M.S.stepA ⟨K, A, B, C, D, L⟩).1, { M with S := (M.S.stepA ⟨K, A, B, C, D, L⟩).2 }) := by
        simp only [mdFun]
        rw [if_neg h0, if_neg (by omega), if_neg (by omega), if_neg (by omega), if_neg (by omega), if_neg (by omega), if_neg (by omega), if_neg (by omega), if_neg (by omega)]
      have e3 : stepO Q.O ⟨K, A, B, C, D, L⟩ = (match Q.O with | none => (1, none) | some T => ((T.step ⟨K, A, B, C, D, L⟩).1, some (T.step ⟨K, A, B, C, D, L⟩).2)) := by
        simp only [stepO]
        rw [if_neg h0, if_neg h14]
        rfl
      rw [hx, hy, e1, e2, e3]
      have htab := h.tab
      cases hO : Q.O with
      | none =>
        rw [hO] at htab
        rw [if_pos (show M.S.has = false from htab)]
        exact ⟨rfl, h, hO⟩
      | some T =>
        rw [hO] at htab
        obtain ⟨t1, t2⟩ := htab
        rw [if_neg (by rw [t1]; simp)]
        obtain ⟨s1, s2, s3, s4⟩ := t2.step (g T hO) ⟨K, A, B, C, D, L⟩
        refine ⟨s1, ⟨⟨?_, s2⟩, h.hp, h.mks⟩, ?_⟩
        · show (M.S.stepA ⟨K, A, B, C, D, L⟩).2.has = true
          rw [s3]; exact t1
        · show some (T.stepA ⟨K, A, B, C, D, L⟩).2 = some (T.step ⟨K, A, B, C, D, L⟩).2
          rw [s4]
end Go.Proofs.Qxb6500717aGreat
