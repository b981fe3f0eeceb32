/-
  Heap and marks against the model's list and map.
-/
import Derived.Test.Qxb6500717aGreatBi6
import Derived.Test.Qxb6500717aGreatDoX7
import Derived.Test.Qxb6500717aGreatSt11
import Derived.Test.Qxb6500717aGreatSt13
namespace Go.Proofs.Qxb6500717aGreat
open Go.RowKit
set_option linter.unusedSimpArgs false
set_option linter.unusedVariables false

structure RH (L : List Ent) (nx : Nat) (H : List Ent) (px : Nat) : Prop where
  nx : nx = px
  pm : L.Perm H
  sq : ∀ e, e ∈ H → e.2.2.2 < (px : Int)
  ds : H.Pairwise (fun a b => a.2.2.2 ≠ b.2.2.2)
section
variable {L L' H : List Ent} {nx px : Nat}
theorem at0_mem {L : List Ent} {i : Nat} (h : i < L.length) : at0 L i ∈ L := by
  rw [← at0_getElem L i h]; exact List.getElem_mem h
theorem mem_at0 {L : List Ent} {e : Ent} (h : e ∈ L) : ∃ i, i < L.length ∧ at0 L i = e := by
  obtain ⟨i, hi, e1⟩ := List.getElem_of_mem h
  exact ⟨i, hi, by rw [← at0_getElem L i hi]; exact e1⟩
theorem RH.inj (h : RH L nx H px) {a b : Ent} (ha : a ∈ H) (hb : b ∈ H) (e : a.2.2.2 = b.2.2.2) : a = b := by
  obtain ⟨i, hi, rfl⟩ := List.getElem_of_mem ha
  obtain ⟨j, hj, rfl⟩ := List.getElem_of_mem hb
  have hp := List.pairwise_iff_getElem.1 h.ds
  rcases Nat.lt_trichotomy i j with hx | hx | hx
  · exact absurd e (hp i j hi hj hx)
  · subst hx; rfl
  · exact absurd e.symm (hp j i hj hi hx)
theorem RH.push (h : RH L nx H px) {a b c : Int} (hp : L'.Perm (L ++ [(a, b, c, (nx : Int))])) : RH L' (nx + 1) (H ++ [(a, b, c, (px : Int))]) (px + 1) := by
  have e := h.nx
  subst e
  refine ⟨rfl, hp.trans (h.pm.append_right _), fun x hx => ?_, ?_⟩
  · rcases List.mem_append.1 hx with hx | hx
    · have := h.sq x hx; omega
    · simp at hx; subst hx; simp only; omega
  · rw [List.pairwise_append]
    refine ⟨h.ds, by simp, fun x hx y hy => ?_⟩
    simp at hy
    subst hy
    have := h.sq x hx
    simp only
    omega
/-- The head is the model's least entry. -/
theorem RH.least (h : RH L nx H px) (hh : isHeap L) (hne : L ≠ []) {i : Nat} (hi : isLeast H i) : at0 L 0 = at0 H i := by
  have hl : 0 < L.length := List.length_pos_iff.2 hne
  have m1 : at0 L 0 ∈ H := h.pm.mem_iff.1 (at0_mem hl)
  have m2 : at0 H i ∈ H := at0_mem hi.1
  obtain ⟨j, hj, ej⟩ := mem_at0 (h.pm.mem_iff.2 m2)
  obtain ⟨k, hk, ek⟩ := mem_at0 m1
  have n1 := heap_least hh j hj
  rw [ej] at n1
  have n2 := hi.2 k hk
  rw [ek] at n2
  exact h.inj m1 m2 (tie_eq n2 n1)
theorem RH.pop (h : RH L nx H px) (hh : isHeap L) (hne : L ≠ []) {i : Nat} (hi : isLeast H i) (hp : (at0 L 0 :: L').Perm L) : RH L' nx (H.eraseIdx i) px := by
  have e := h.least hh hne hi
  have hsub : (H.eraseIdx i).Sublist H := List.eraseIdx_sublist H i
  refine ⟨h.nx, ?_, fun x hx => h.sq x (hsub.subset hx), h.ds.sublist hsub⟩
  have h1 : (at0 H i :: H.eraseIdx i).Perm H := by
    rw [← at0_getElem H i hi.1, List.eraseIdx_eq_take_drop_succ]
    have hi1 : i < H.length := hi.1
    have e2 : H.take i ++ H[i] :: H.drop (i + 1) = H := by rw [← List.drop_eq_getElem_cons hi1, List.take_append_drop]
    exact List.perm_middle.symm.trans (by rw [e2])
  have h2 : (at0 H i :: L').Perm (at0 H i :: H.eraseIdx i) := by
    rw [e] at hp
    exact (hp.trans h.pm).trans h1.symm
  exact List.Perm.cons_inv h2
theorem RH.nil (h : RH L nx H px) : L = [] ↔ H = [] := by
  constructor
  · intro e; subst e; exact List.Perm.nil_eq h.pm |>.symm
  · intro e; subst e; exact List.Perm.eq_nil h.pm
theorem RH.empty : RH [] 0 [] 0 := ⟨rfl, List.Perm.refl _, fun e he => (by cases he), List.Pairwise.nil⟩
end
structure RK (S : MkS) (ms : Nat) (mf : Int → Option Int) (mn : Nat) : Prop where
  n : S.n = ms
  cn : S.cn = mn
  rd : 1 ≤ S.rd ∧ S.rd ≤ 255
  st : ∀ i, 0 ≤ S.st i ∧ S.st i ≤ S.rd
  yes : ∀ i, S.has i = true → mf i = some (S.vl i.toNat)
  no : ∀ i, S.has i = false → mf i = none
section
variable {S : MkS} {ms mn : Nat} {mf : Int → Option Int}
theorem RK.new (n : Nat) : RK (MkS.new n) n (fun _ => none) 0 := by
  refine ⟨rfl, rfl, by simp [MkS.new], fun i => by simp [MkS.new], fun i h => ?_, fun i _ => rfl⟩
  simp [MkS.has, MkS.new] at h
theorem RK.isSome (h : RK S ms mf mn) (i : Int) : (mf i).isSome = S.has i := by
  cases hh : S.has i with
  | true => rw [h.yes i hh]; rfl
  | false => rw [h.no i hh]; rfl
theorem RK.clr (h : RK S ms mf mn) : RK S.clr ms (fun _ => none) 0 := by
  unfold MkS.clr
  split
  · refine ⟨h.n, rfl, by simp, fun i => by simp, fun i hi => ?_, fun i _ => rfl⟩
    simp [MkS.has] at hi
  · next hr =>
    have hrd := h.rd
    refine ⟨h.n, rfl, by simp only; omega, fun i => by have := h.st i; simp only; omega, fun i hi => ?_, fun i _ => rfl⟩
    simp only [MkS.has, decide_eq_true_eq] at hi
    have := h.st i.toNat
    omega
theorem RK.clrN (h : RK S ms mf mn) : ∀ n, RK (clrN (n + 1) S) ms (fun _ => none) 0
  | 0 => h.clr
  | n + 1 => (RK.clrN h n).clr
theorem RK.set (h : RK S ms mf mn) {i : Nat} (hi : i < S.n) (v : Int) : RK (S.set i v) ms (updM mf i v) (if (mf i).isSome then mn else mn + 1) := by
  have hs := h.isSome i
  have hiff : S.has i = decide (S.st i = S.rd) := by
    unfold MkS.has
    rw [Int.toNat_natCast]
    congr 1
    exact propext ⟨fun hh => hh.2.2, fun hh => ⟨by omega, by omega, hh⟩⟩
  rw [hs, hiff]
  unfold MkS.set
  by_cases e : S.st i = S.rd
  · rw [if_pos e, decide_eq_true e, if_pos rfl]
    refine ⟨h.n, h.cn, h.rd, h.st, fun j hj => ?_, fun j hj => ?_⟩
    · have hj' : S.has j = true := hj
      unfold updM
      by_cases ej : j = (i : Int)
      · subst ej; rw [if_pos rfl, Int.toNat_natCast]; simp only [upd_at]
      · rw [if_neg ej, h.yes j hj']
        simp only [MkS.has, decide_eq_true_eq] at hj'
        simp only
        rw [upd_ne _ _ (by omega)]
    · have hj' : S.has j = false := hj
      unfold updM
      by_cases ej : j = (i : Int)
      · subst ej; rw [hiff, decide_eq_true e] at hj'; cases hj'
      · rw [if_neg ej]; exact h.no j hj'
  · rw [if_neg e, decide_eq_false e, if_neg (by simp)]
    have hst := h.rd
    refine ⟨h.n, by simp only; rw [h.cn], h.rd, fun j => ?_, fun j hj => ?_, fun j hj => ?_⟩
    · show 0 ≤ upd S.st i S.rd j ∧ upd S.st i S.rd j ≤ S.rd
      unfold upd
      split
      · omega
      · exact h.st j
    · unfold updM
      simp only [MkS.has, decide_eq_true_eq] at hj
      by_cases ej : j = (i : Int)
      · subst ej; rw [if_pos rfl, Int.toNat_natCast]; simp only [upd_at]
      · rw [if_neg ej]
        have hne : j.toNat ≠ i := by omega
        simp only [upd_ne _ _ hne] at hj ⊢
        exact h.yes j (by simp only [MkS.has, decide_eq_true_eq]; exact hj)
    · unfold updM
      simp only [MkS.has, decide_eq_false_iff_not] at hj
      by_cases ej : j = (i : Int)
      · subst ej
        rw [Int.toNat_natCast] at hj
        simp only [upd_at] at hj
        exact absurd ⟨by omega, by omega, trivial⟩ hj
      · rw [if_neg ej]
        refine h.no j ?_
        simp only [MkS.has, decide_eq_false_iff_not]
        intro hh
        have hne : j.toNat ≠ i := by omega
        rw [upd_ne _ _ hne] at hj
        exact hj hh
theorem RK.mark (h : RK S ms mf mn) {M : ModS} (h1 : M.ms = ms) (h2 : M.mf = mf) (h3 : M.mn = mn) (i v : Int) : okC (S.markX i v).1 = (M.mark i v).1 ∧ RK (S.markX i v).2 (M.mark i v).2.ms (M.mark i v).2.mf (M.mark i v).2.mn := by
  subst h1 h2 h3
  unfold MkS.markX ModS.mark
  have hn := h.n
  by_cases hi : 0 ≤ i ∧ i < S.n
  · rw [if_pos hi, if_pos (by omega)]
    obtain ⟨i, rfl⟩ := Int.eq_ofNat_of_zero_le hi.1
    refine ⟨rfl, ?_⟩
    have := h.set (i := i) (by omega) v
    rw [Int.toNat_natCast]
    exact this
  · rw [if_neg hi, if_neg (by omega)]
    exact ⟨rfl, h⟩
theorem RK.look (h : RK S ms mf mn) (i : Int) : lookA S i = ((if (mf i).isSome then 0 else 9), (match mf i with | some x => [x] | none => [])) := by
  unfold lookA
  cases hh : S.has i with
  | true => rw [h.yes i hh]; rfl
  | false => rw [h.no i hh]; rfl
end
end Go.Proofs.Qxb6500717aGreat
