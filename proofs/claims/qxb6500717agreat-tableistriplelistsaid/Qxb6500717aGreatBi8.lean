/-
  One step of the desk and one of the model, whatever it is; they answer alike.
-/
import Derived.Test.Qxb6500717aGreatBi7
import Derived.Test.Qxb6500717aGreatDoX1
import Derived.Test.Qxb6500717aGreatSt7
import Derived.Test.Qxb6500717aGreatAll
import Derived.Test.Qxb6500717aGreatNoc4
namespace Go.Proofs.Qxb6500717aGreat
open Go.RowKit
set_option linter.unusedSimpArgs false
set_option linter.unusedVariables false
set_option maxRecDepth 20000
set_option maxHeartbeats 4000000

/-- A step on a table: its answer and what it leaves. -/
def TabS.stepA (T : TabS) (o : Opr) : (Int × List Int) × TabS :=
  if o.K = 1 then ((T.advC o.C, []), T.advT o.C)
  else if o.K = 2 then (((T.reserve o.A o.B o.C).1, []), (T.reserve o.A o.B o.C).2)
  else if o.K = 3 then (((TabS.path o.A o.C o.L 0 T).1, [((TabS.path o.A o.C o.L 0 T).2.1 : Int)]), (TabS.path o.A o.C o.L 0 T).2.2)
  else if o.K = 4 then (((T.stand o.A o.B o.C).1, []), (T.stand o.A o.B o.C).2)
  else if o.K = 5 then (((T.cutA o.A T.base).1, cutV (T.cutA o.A T.base)), (T.cutA o.A T.base).2.2)
  else if o.K = 6 then (((T.cutA o.A o.C).1, cutV (T.cutA o.A o.C)), (T.cutA o.A o.C).2.2)
  else if o.K = 7 then ((0, [T.holdQ o.B o.C]), T)
  else if o.K = 8 then ((0, [T.atQ o.A o.C]), T)
  else if o.K = 9 then ((0, [flg (T.freeC o.A o.B o.C)]), T)
  else if o.K = 10 then ((0, [flg (T.freeM o.A o.B o.D o.C)]), T)
  else if o.K = 11 then ((0, [flg (T.freeF o.A o.B o.C)]), T)
  else if o.K = 12 then ((0, [(T.held : Int), (T.cap : Int), (T.base : Int)]), T)
  else if o.K = 13 then ((0, [(T.removQ o.A o.C : Int)]), T)
  else ((2, []), T)
def dkFun (Q : DkS) (o : Opr) : (Int × List Int) × DkS :=
  if o.K = 0 then (((stepNew Q.O o.A o.B o.C).1, []), { Q with O := (stepNew Q.O o.A o.B o.C).2 })
  else if o.K = 16 then (headA Q.L, Q)
  else if o.K = 17 then ((0, [(Q.L.length : Int)]), Q)
  else if o.K = 18 then ((0, []), { Q with L := [], nx := 0 })
  else if o.K = 19 then (((minitD Q o.A).1, []), (minitD Q o.A).2)
  else if o.K = 20 then ((okC (Q.S.markX o.A o.B).1, []), { Q with S := (Q.S.markX o.A o.B).2 })
  else if o.K = 21 then (lookA Q.S o.A, Q)
  else if o.K = 22 then ((0, [(Q.S.cn : Int)]), Q)
  else if o.K = 23 then ((0, []), { Q with S := clrN (clrCount o.A) Q.S })
  else match Q.O with
    | none => ((1, []), Q)
    | some T => ((T.stepA o).1, { Q with O := some (T.stepA o).2 })
def dkRel (Q : DkS) (o : Opr) (X : (Int × List Int) × DkS) : Prop :=
  if o.K = 14 then X.1 = (0, []) ∧ pushD Q (o.A, o.B, o.C, (Q.nx : Int)) X.2
  else if o.K = 15 then X.1 = headA Q.L ∧ popD Q X.2
  else X = dkFun Q o
/-- The same of the model. -/
def MdS.stepA (S : MdS) (o : Opr) : (Int × List Int) × MdS :=
  if o.K = 1 then (((S.advance o.C).1, []), (S.advance o.C).2)
  else if o.K = 2 then (((S.reserve o.A o.B o.C).1, []), (S.reserve o.A o.B o.C).2)
  else if o.K = 3 then (((MdS.path o.A o.C S.tr o.L 0 S).1, [((MdS.path o.A o.C S.tr o.L 0 S).2.1 : Int)]), (MdS.path o.A o.C S.tr o.L 0 S).2.2)
  else if o.K = 4 then (((S.stand o.A o.B o.C).1, []), (S.stand o.A o.B o.C).2)
  else if o.K = 5 then ((S.qTrunc o.A S.base).1, (S.qTrunc o.A S.base).2)
  else if o.K = 6 then ((S.qTrunc o.A o.C).1, (S.qTrunc o.A o.C).2)
  else if o.K = 7 then ((0, [S.qHold o.B o.C]), S)
  else if o.K = 8 then ((0, [S.qAt o.A o.C]), S)
  else if o.K = 9 then ((0, [fl (S.freeC o.A o.B o.C)]), S)
  else if o.K = 10 then ((0, [fl (S.qMove o.A o.B o.D o.C)]), S)
  else if o.K = 11 then ((0, [fl (S.qFrom o.A o.B o.C)]), S)
  else if o.K = 12 then ((0, [(S.tr.length : Int) + S.sp.length, (S.cap : Int), (S.base : Int)]), S)
  else if o.K = 13 then ((0, [((cntTr o.A o.C S.tr + cntSp o.A o.C S.sp : Nat) : Int)]), S)
  else ((2, []), S)
def mdFun (M : ModS) (o : Opr) : (Int × List Int) × ModS :=
  if o.K = 0 then (((M.S.init o.A o.B o.C).1, []), { M with S := (M.S.init o.A o.B o.C).2 })
  else if o.K = 14 then ((0, []), { M with H := M.H ++ [(o.A, o.B, o.C, (M.px : Int))], px := M.px + 1 })
  else if o.K = 17 then ((0, [(M.H.length : Int)]), M)
  else if o.K = 18 then ((0, []), { M with H := [], px := 0 })
  else if o.K = 19 then (((M.minit o.A).1, []), (M.minit o.A).2)
  else if o.K = 20 then (((M.mark o.A o.B).1, []), (M.mark o.A o.B).2)
  else if o.K = 21 then (((if (M.mf o.A).isSome then 0 else 9), (match M.mf o.A with | some x => [x] | none => [])), M)
  else if o.K = 22 then ((0, [(M.mn : Int)]), M)
  else if o.K = 23 then ((0, []), { M with mf := fun _ => none, mn := 0 })
  else if M.S.has = false then ((1, []), M)
  else ((M.S.stepA o).1, { M with S := (M.S.stepA o).2 })
def popM (M : ModS) (pop : Bool) (X : (Int × List Int) × ModS) : Prop :=
  (M.H = [] ∧ X = ((9, []), M)) ∨ ∃ i, isLeast M.H i ∧ X = ((0, [(at0 M.H i).1, (at0 M.H i).2.1, (at0 M.H i).2.2.1]), if pop then { M with H := M.H.eraseIdx i } else M)
def mdRel (M : ModS) (o : Opr) (X : (Int × List Int) × ModS) : Prop :=
  if o.K = 15 then popM M true X else if o.K = 16 then popM M false X else X = mdFun M o

theorem do_allX (o : Opr) (ao : Option Addr) (n cap : Nat) (lab : Nat → Nat) (d k : Nat) (Q : DkS) (w : World) (h : DeskX w lab d k Q) (hk : k ≤ 900000) (ha : OprAt w lab o ao n) :
    Calls Tryz.prog 6 #[.pointer (some ⟨d, 0, none⟩), .agg #[.int .i64 (o.K), .int .i64 (o.A), .int .i64 (o.B), .int .i64 (o.C), .int .i64 (o.D), .slice ao n cap]] w (fun e w' => ∃ X, dkRel Q o X ∧ doXPost lab d k X w e w') := by
  obtain ⟨K, A, B, C, D, L⟩ := o
  have hC := ha.hC
  simp only at hC ⊢
  have fin : ∀ X, K ≠ 14 → K ≠ 15 → dkFun Q ⟨K, A, B, C, D, L⟩ = X → ∀ e w', doXPost lab d k X w e w' → ∃ X, dkRel Q ⟨K, A, B, C, D, L⟩ X ∧ doXPost lab d k X w e w' := by
    intro X h1 h2 hX e w' hp
    refine ⟨X, ?_, hp⟩
    unfold dkRel
    rw [if_neg h1, if_neg h2]
    exact hX.symm
  by_cases h14 : 14 ≤ K ∧ K ≤ 23
  · rcases (by omega : K = 14 ∨ K = 15 ∨ K = 16 ∨ K = 17 ∨ K = 18 ∨ K = 19 ∨ K = 20 ∨ K = 21 ∨ K = 22 ∨ K = 23) with rfl | rfl | rfl | rfl | rfl | rfl | rfl | rfl | rfl | rfl
    · refine (dx_push A B C D ao n cap lab d k Q w h hk).mono ?_
      rintro e w' ⟨Q', h1, h2⟩
      exact ⟨((0, []), Q'), by unfold dkRel; rw [if_pos rfl]; exact ⟨rfl, h1⟩, h2⟩
    · refine (dx_pop A B C D ao n cap lab d k Q w h hk).mono ?_
      rintro e w' ⟨Q', h1, h2⟩
      exact ⟨(headA Q.L, Q'), by unfold dkRel; rw [if_neg (by simp), if_pos rfl]; exact ⟨rfl, h1⟩, h2⟩
    · exact (dx_peek A B C D ao n cap lab d k Q w h hk).mono (fin _ (by omega) (by omega) (by simp [dkFun]))
    · exact (dx_hlen A B C D ao n cap lab d k Q w h hk).mono (fin _ (by omega) (by omega) (by simp [dkFun]))
    · exact (dx_hreset A B C D ao n cap lab d k Q w h hk).mono (fin _ (by omega) (by omega) (by simp [dkFun]))
    · exact (dx_minit A B C D ao n cap lab d k Q w h hk).mono (fin _ (by omega) (by omega) (by simp [dkFun]))
    · exact (dx_mark A B C D ao n cap lab d k Q w h hk).mono (fin _ (by omega) (by omega) (by simp [dkFun]))
    · exact (dx_look A B C D ao n cap lab d k Q w h hk).mono (fin _ (by omega) (by omega) (by simp [dkFun]))
    · exact (dx_mcount A B C D ao n cap lab d k Q w h hk).mono (fin _ (by omega) (by omega) (by simp [dkFun]))
    · exact (dx_mclear A B C D ao n cap lab d k Q w h hk).mono (fin _ (by omega) (by omega) (by simp [dkFun]))
  by_cases h0 : K = 0
  · subst h0
    exact (dx_init A B C D ao n cap lab d k Q w h hk).mono (fin _ (by omega) (by omega) (by simp [dkFun]))
  cases hO : Q.O with
  | none =>
    refine (dx_none K A B C D ao n cap lab d k Q hO w h ⟨h0, h14⟩).mono (fin _ (by omega) (by omega) ?_)
    simp only [dkFun]
    rw [if_neg h0, if_neg (by omega), if_neg (by omega), if_neg (by omega), if_neg (by omega), if_neg (by omega), if_neg (by omega), if_neg (by omega), if_neg (by omega), hO]
  | some T =>
    have fin2 : ∀ X : (Int × List Int) × TabS, T.stepA ⟨K, A, B, C, D, L⟩ = X → ∀ e w', doXPost lab d k (X.1, { Q with O := some X.2 }) w e w' → ∃ X, dkRel Q ⟨K, A, B, C, D, L⟩ X ∧ doXPost lab d k X w e w' := by
      intro X hX e w' hp
      refine fin _ (by omega) (by omega) ?_ e w' hp
      simp only [dkFun]
      rw [if_neg h0, if_neg (by omega), if_neg (by omega), if_neg (by omega), if_neg (by omega), if_neg (by omega), if_neg (by omega), if_neg (by omega), if_neg (by omega), hO]
      simp only [hX]
    have eQ : ({ Q with O := some T } : DkS) = Q := by rw [← hO]
    have fin3 : ∀ x : Int × List Int, T.stepA ⟨K, A, B, C, D, L⟩ = (x, T) → ∀ e w', doXPost lab d k (x, Q) w e w' → ∃ X, dkRel Q ⟨K, A, B, C, D, L⟩ X ∧ doXPost lab d k X w e w' := by
      intro x hX e w' hp
      exact fin2 (x, T) hX e w' (by simp only; rw [eQ]; exact hp)
    by_cases hl : 1 ≤ K ∧ K ≤ 13
    · rcases (by omega : K = 1 ∨ K = 2 ∨ K = 3 ∨ K = 4 ∨ K = 5 ∨ K = 6 ∨ K = 7 ∨ K = 8 ∨ K = 9 ∨ K = 10 ∨ K = 11 ∨ K = 12 ∨ K = 13) with rfl | rfl | rfl | rfl | rfl | rfl | rfl | rfl | rfl | rfl | rfl | rfl | rfl
      · exact (dx_adv A B C D ao n cap lab d k Q T hO w h).mono (fin2 ((T.advC C, []), T.advT C) (by simp [TabS.stepA]))
      · exact (dx_reserve A B C D ao n cap lab d k Q T hO w h).mono (fin2 (((T.reserve A B C).1, []), (T.reserve A B C).2) (by simp [TabS.stepA]))
      · exact (dx_path A B C D ao n cap lab d k Q T hO w h L ha.hn ha.hn2 hC ha.hrow).mono (fin2 (((TabS.path A C L 0 T).1, [((TabS.path A C L 0 T).2.1 : Int)]), (TabS.path A C L 0 T).2.2) (by simp [TabS.stepA]))
      · exact (dx_stand A B C D ao n cap lab d k Q T hO w h).mono (fin2 (((T.stand A B C).1, []), (T.stand A B C).2) (by simp [TabS.stepA]))
      · exact (dx_release A B C D ao n cap lab d k Q T hO w h).mono (fin2 (((T.cutA A T.base).1, cutV (T.cutA A T.base)), (T.cutA A T.base).2.2) (by simp [TabS.stepA]))
      · exact (dx_trunc A B C D ao n cap lab d k Q T hO w h hC.2).mono (fin2 (((T.cutA A C).1, cutV (T.cutA A C)), (T.cutA A C).2.2) (by simp [TabS.stepA]))
      · exact (dx_hold A B C D ao n cap lab d k Q T hO w h).mono (fin3 _ (by simp [TabS.stepA]))
      · exact (dx_at A B C D ao n cap lab d k Q T hO w h).mono (fin3 _ (by simp [TabS.stepA]))
      · exact (dx_freeC A B C D ao n cap lab d k Q T hO w h).mono (fin3 _ (by simp [TabS.stepA]))
      · exact (dx_freeM A B C D ao n cap lab d k Q T hO w h).mono (fin3 _ (by simp [TabS.stepA]))
      · exact (dx_freeF A B C D ao n cap lab d k Q T hO w h).mono (fin3 _ (by simp [TabS.stepA]))
      · exact (dx_held A B C D ao n cap lab d k Q T hO w h).mono (fin3 _ (by simp [TabS.stepA]))
      · exact (dx_remov A B C D ao n cap lab d k Q T hO w h hC.2).mono (fin3 _ (by simp [TabS.stepA]))
    · refine (dx_else K A B C D ao n cap lab d k Q T hO w h (by omega)).mono (fin3 _ ?_)
      simp only [TabS.stepA]
      rw [if_neg (by omega), if_neg (by omega), if_neg (by omega), if_neg (by omega), if_neg (by omega), if_neg (by omega), if_neg (by omega), if_neg (by omega), if_neg (by omega), if_neg (by omega), if_neg (by omega), if_neg (by omega), if_neg (by omega)]

/-- The step's arguments, for the model. -/
structure OprM (w : World) (m : Nat) (o : Opr) (ao : Option Addr) (n : Nat) : Prop where
  hA : -9223372036854775808 ≤ o.A ∧ o.A ≤ 9223372036854775807
  hB : -9223372036854775808 ≤ o.B ∧ o.B ≤ 9223372036854775807
  hC : -9223372036854775808 ≤ o.C ∧ o.C ≤ 9223372036854775807
  hn : o.L.length = n
  hn2 : n ≤ 100000
  hrow : ∀ (i : Nat) (c : Int), o.L[i]? = some c → ∃ b a, ao = some ⟨b, a, none⟩ ∧ b < m ∧ w.cell? ⟨b, a + i, none⟩ = some (.int .i64 (c))
theorem st_all (o : Opr) (ao : Option Addr) (n cap : Nat) (lab : Nat → Nat) (m k : Nat) (M : ModS) (w : World) (h : ModX w lab m k M) (hk : k ≤ 900000) (ha : OprM w m o ao n) :
    Calls Tryz.prog 8 #[.pointer (some ⟨m, 0, none⟩), .agg #[.int .i64 (o.K), .int .i64 (o.A), .int .i64 (o.B), .int .i64 (o.C), .int .i64 (o.D), .slice ao n cap]] w (fun e w' => ∃ X, mdRel M o X ∧ stPost lab m k X w e w') := by
  obtain ⟨K, A, B, C, D, L⟩ := o
  obtain ⟨hA, hB, hC, hn, hn2, hrow⟩ := ha
  simp only at hA hB hC hn hrow ⊢
  have fin : ∀ X, K ≠ 15 → K ≠ 16 → mdFun M ⟨K, A, B, C, D, L⟩ = X → ∀ e w', stPost lab m k X w e w' → ∃ X, mdRel M ⟨K, A, B, C, D, L⟩ X ∧ stPost lab m k X w e w' := by
    intro X h1 h2 hX e w' hp
    refine ⟨X, ?_, hp⟩
    unfold mdRel
    rw [if_neg h1, if_neg h2]
    exact hX.symm
  by_cases h14 : 14 ≤ K ∧ K ≤ 23
  · rcases (by omega : K = 14 ∨ K = 15 ∨ K = 16 ∨ K = 17 ∨ K = 18 ∨ K = 19 ∨ K = 20 ∨ K = 21 ∨ K = 22 ∨ K = 23) with rfl | rfl | rfl | rfl | rfl | rfl | rfl | rfl | rfl | rfl
    · exact (st_push A B C D ao n cap lab m k M w h hk).mono (fin _ (by omega) (by omega) (by simp [mdFun]))
    · refine (st_pop A B C D ao n cap lab m k M w h hk).mono ?_
      rintro e w' (⟨h1, h2⟩ | ⟨i, h1, h2⟩)
      · exact ⟨((9, []), M), by unfold mdRel; rw [if_pos rfl]; exact Or.inl ⟨h1, rfl⟩, h2⟩
      · exact ⟨_, by unfold mdRel; rw [if_pos rfl]; exact Or.inr ⟨i, h1, rfl⟩, h2⟩
    · refine (st_peek A B C D ao n cap lab m k M w h hk).mono ?_
      rintro e w' (⟨h1, h2⟩ | ⟨i, h1, h2⟩)
      · exact ⟨((9, []), M), by unfold mdRel; rw [if_neg (by simp), if_pos rfl]; exact Or.inl ⟨h1, rfl⟩, h2⟩
      · exact ⟨_, by unfold mdRel; rw [if_neg (by simp), if_pos rfl]; exact Or.inr ⟨i, h1, rfl⟩, h2⟩
    · exact (st_hlen A B C D ao n cap lab m k M w h hk).mono (fin _ (by omega) (by omega) (by simp [mdFun]))
    · exact (st_hreset A B C D ao n cap lab m k M w h hk).mono (fin _ (by omega) (by omega) (by simp [mdFun]))
    · exact (st_minit A B C D ao n cap lab m k M w h hA hB hk).mono (fin _ (by omega) (by omega) (by simp [mdFun]))
    · exact (st_mark A B C D ao n cap lab m k M w h hA hB hk).mono (fin _ (by omega) (by omega) (by simp [mdFun]))
    · exact (st_look A B C D ao n cap lab m k M w h hA hB hk).mono (fin _ (by omega) (by omega) (by rfl))
    · exact (st_mcount A B C D ao n cap lab m k M w h hA hB hk).mono (fin _ (by omega) (by omega) (by simp [mdFun]))
    · exact (st_mclear A B C D ao n cap lab m k M w h hA hB hk).mono (fin _ (by omega) (by omega) (by simp [mdFun]))
  by_cases h0 : K = 0
  · subst h0
    exact (st_init A B C D ao n cap lab m k M w h).mono (fin _ (by omega) (by omega) (by simp [mdFun]))
  cases hh : M.S.has with
  | false =>
    refine (st_none K A B C D ao n cap lab m k M w h hh ⟨h0, h14⟩).mono (fin _ (by omega) (by omega) ?_)
    simp only [mdFun]
    rw [if_neg h0, if_neg (by omega), if_neg (by omega), if_neg (by omega), if_neg (by omega), if_neg (by omega), if_neg (by omega), if_neg (by omega), if_neg (by omega), if_pos hh]
  | true =>
    have fin2 : ∀ X : (Int × List Int) × MdS, M.S.stepA ⟨K, A, B, C, D, L⟩ = X → ∀ e w', stPost lab m k (X.1, { M with S := X.2 }) w e w' → ∃ X, mdRel M ⟨K, A, B, C, D, L⟩ X ∧ stPost lab m k X w e w' := by
      intro X hX e w' hp
      refine fin _ (by omega) (by omega) ?_ e w' hp
      simp only [mdFun]
      rw [if_neg h0, if_neg (by omega), if_neg (by omega), if_neg (by omega), if_neg (by omega), if_neg (by omega), if_neg (by omega), if_neg (by omega), if_neg (by omega), if_neg (by simp [hh]), hX]
    by_cases hl : 1 ≤ K ∧ K ≤ 13
    · rcases (by omega : K = 1 ∨ K = 2 ∨ K = 3 ∨ K = 4 ∨ K = 5 ∨ K = 6 ∨ K = 7 ∨ K = 8 ∨ K = 9 ∨ K = 10 ∨ K = 11 ∨ K = 12 ∨ K = 13) with rfl | rfl | rfl | rfl | rfl | rfl | rfl | rfl | rfl | rfl | rfl | rfl | rfl
      · exact (st_adv A B C D ao n cap lab m k M w h hh).mono (fin2 (((M.S.advance C).1, []), (M.S.advance C).2) (by simp [MdS.stepA]))
      · exact (st_res A B C D ao n cap lab m k M w h hh).mono (fin2 (((M.S.reserve A B C).1, []), (M.S.reserve A B C).2) (by simp [MdS.stepA]))
      · exact (st_path A B C D ao n cap lab m k M w h hh L hn hn2 hC hrow).mono (fin2 (((MdS.path A C M.S.tr L 0 M.S).1, [((MdS.path A C M.S.tr L 0 M.S).2.1 : Int)]), (MdS.path A C M.S.tr L 0 M.S).2.2) (by simp [MdS.stepA]))
      · exact (st_stand A B C D ao n cap lab m k M w h hh).mono (fin2 (((M.S.stand A B C).1, []), (M.S.stand A B C).2) (by simp [MdS.stepA]))
      · exact (st_release A B C D ao n cap lab m k M w h hh).mono (fin2 (M.S.qTrunc A M.S.base) (by simp [MdS.stepA]))
      · exact (st_trunc A B C D ao n cap lab m k M w h hh hC.2).mono (fin2 (M.S.qTrunc A C) (by simp [MdS.stepA]))
      · exact (st_hold A B C D ao n cap lab m k M w h hh).mono (fin2 ((0, [M.S.qHold B C]), M.S) (by simp [MdS.stepA]))
      · exact (st_at A B C D ao n cap lab m k M w h hh).mono (fin2 ((0, [M.S.qAt A C]), M.S) (by simp [MdS.stepA]))
      · exact (st_freeC A B C D ao n cap lab m k M w h hh).mono (fin2 ((0, [fl (M.S.freeC A B C)]), M.S) (by simp [MdS.stepA]))
      · exact (st_freeM A B C D ao n cap lab m k M w h hh).mono (fin2 ((0, [fl (M.S.qMove A B D C)]), M.S) (by simp [MdS.stepA]))
      · exact (st_freeF A B C D ao n cap lab m k M w h hh).mono (fin2 ((0, [fl (M.S.qFrom A B C)]), M.S) (by simp [MdS.stepA]))
      · exact (st_held A B C D ao n cap lab m k M w h hh).mono (fin2 ((0, [(M.S.tr.length : Int) + M.S.sp.length, (M.S.cap : Int), (M.S.base : Int)]), M.S) (by simp [MdS.stepA]))
      · exact (st_remov A B C D ao n cap lab m k M w h hh).mono (fin2 ((0, [((cntTr A C M.S.tr + cntSp A C M.S.sp : Nat) : Int)]), M.S) (by simp [MdS.stepA]))
    · refine (st_else K A B C D ao n cap lab m k M w h hh (by omega)).mono (fin2 ((2, []), M.S) ?_)
      simp only [MdS.stepA]
      rw [if_neg (by omega), if_neg (by omega), if_neg (by omega), if_neg (by omega), if_neg (by omega), if_neg (by omega), if_neg (by omega), if_neg (by omega), if_neg (by omega), if_neg (by omega), if_neg (by omega), if_neg (by omega), if_neg (by omega)]
end Go.Proofs.Qxb6500717aGreat
