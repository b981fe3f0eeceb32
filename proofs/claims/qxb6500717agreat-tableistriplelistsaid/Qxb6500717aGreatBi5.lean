/-
  The table against the model's lists: Truncate, Removable.
-/
import Derived.Test.Qxb6500717aGreatBi4
import Derived.Test.Qxb6500717aGreatSt6
namespace Go.Proofs.Qxb6500717aGreat
open Go.RowKit
set_option linter.unusedSimpArgs false
set_option linter.unusedVariables false

theorem trCut_filter (r t : Nat) (l : List (Nat × Nat × Nat)) : trCut r t l = l.filter (fun x => decide (x.1 ≠ r ∨ x.2.2 < t)) := by
  induction l with
  | nil => rfl
  | cons x l ih =>
    simp only [trCut]
    by_cases h : x.1 ≠ r ∨ x.2.2 < t
    · rw [if_pos h, List.filter_cons_of_pos (by simpa using h), ih]
    · rw [if_neg h, List.filter_cons_of_neg (by simpa using h), ih]
def cutU (t u : Nat) : Nat := if t < u then t else u
/-- What is left of one robot's spans. -/
def mCut (t : Nat) : List (Nat × Nat × Nat) → List (Nat × Nat × Nat)
  | [] => []
  | x :: l => if x.2.1 < cutU t x.2.2 then (x.1, x.2.1, cutU t x.2.2) :: mCut t l else mCut t l
theorem mCut_app (t : Nat) (l m : List (Nat × Nat × Nat)) : mCut t (l ++ m) = mCut t l ++ mCut t m := by
  induction l with
  | nil => rfl
  | cons x l ih =>
    rw [List.cons_append]
    simp only [mCut]
    split
    · rw [ih]; rfl
    · exact ih
theorem mCut_all (t : Nat) (l : List (Nat × Nat × Nat)) (h : ∀ x, x ∈ l → x.2.1 < x.2.2 ∧ x.2.2 ≤ t) : mCut t l = l := by
  induction l with
  | nil => rfl
  | cons x l ih =>
    have hx := h x List.mem_cons_self
    simp only [mCut]
    rw [show cutU t x.2.2 = x.2.2 from if_neg (by omega), if_pos hx.1, ih (fun y hy => h y (List.mem_cons_of_mem _ hy))]
theorem popN_append (l m : List (Nat × Nat × Nat)) (t : Nat) : ∀ j, j ≤ l.length → popN (l ++ m) t j = popN l t j := by
  intro j
  induction j with
  | zero => intro _; rfl
  | succ j ih =>
    intro hj
    simp only [popN]
    rw [List.getElem?_append_left (by omega)]
    split
    · split
      · exact ih (by omega)
      · rfl
    · rfl
theorem cut_is {b t : Nat} : ∀ (n : Nat) (l : List (Nat × Nat × Nat)), l.length = n → SOrd b l → cutL (l.take (popN l t l.length)) t = mCut t l := by
  intro n
  induction n with
  | zero =>
    intro l hl _
    obtain rfl := List.length_eq_zero_iff.1 hl
    rfl
  | succ n ih =>
    intro l hl ho
    rcases List.eq_nil_or_concat l with rfl | ⟨l', x, rfl⟩
    · simp at hl
    · rw [List.concat_eq_append] at hl ho ⊢
      have hlen : l'.length = n := by simp at hl; omega
      have hx := ho.1 x (by simp)
      have ho' : SOrd b l' := ⟨fun y hy => ho.1 y (by simp [hy]), (List.pairwise_append.1 ho.2).1⟩
      have hle : ∀ y, y ∈ l' → y.2.2 ≤ x.2.1 := fun y hy => (List.pairwise_append.1 ho.2).2.2 y hy x (by simp)
      rw [show (l' ++ [x]).length = l'.length + 1 by simp]
      simp only [popN]
      rw [List.getElem?_append_right (Nat.le_refl _)]
      simp only [Nat.sub_self, List.getElem?_cons_zero]
      rw [mCut_app]
      by_cases hf : t ≤ x.2.1
      · rw [if_pos hf, popN_append _ _ _ _ (Nat.le_refl _), List.take_append_of_le_length (popN_le _ _ _), ih l' hlen ho']
        simp only [mCut]
        rw [show cutU t x.2.2 = t from if_pos (by omega), if_neg (by omega), List.append_nil]
      · rw [if_neg hf, List.take_of_length_le (by simp)]
        rw [mCut_all t l' (fun y hy => ⟨(ho'.1 y hy).2, by have := hle y hy; omega⟩)]
        unfold cutL
        rw [show (l' ++ [x]).length - 1 = l'.length by simp, List.getElem?_append_right (Nat.le_refl _)]
        simp only [Nat.sub_self, List.getElem?_cons_zero]
        simp only [mCut]
        by_cases hu : t < x.2.2
        · rw [if_pos hu, show cutU t x.2.2 = t from if_pos hu, if_pos (by omega), List.set_append_right _ _ (Nat.le_refl _)]
          simp
        · rw [if_neg hu, show cutU t x.2.2 = x.2.2 from if_neg hu, if_pos hx.2]
theorem spCut_same (r t : Nat) (l : List (Nat × Nat × Nat × Nat)) : ((spCut r t l).filter (fun x => decide (x.1 = r))).map (fun x => x.2) = mCut t ((l.filter (fun x => decide (x.1 = r))).map (fun x => x.2)) := by
  induction l with
  | nil => rfl
  | cons x l ih =>
    simp only [spCut]
    by_cases hr : x.1 = r
    · rw [List.filter_cons_of_pos (p := fun (x : Nat × Nat × Nat × Nat) => decide (x.1 = r)) (a := x) (by simpa using hr), List.map_cons]
      simp only [mCut]
      have e : spCut1 r t x = (x.1, x.2.1, x.2.2.1, cutU t x.2.2.2) := by
        unfold spCut1 cutU
        by_cases h : t < x.2.2.2
        · rw [if_pos ⟨hr, h⟩, if_pos h]
        · rw [if_neg (fun hh => h hh.2), if_neg h]
      simp only [e]
      split
      · rw [List.filter_cons_of_pos (by simpa using hr), List.map_cons, ih]
      · exact ih
    · have e : spCut1 r t x = x := if_neg (fun h => hr h.1)
      rw [List.filter_cons_of_neg (p := fun (x : Nat × Nat × Nat × Nat) => decide (x.1 = r)) (a := x) (by simpa using hr)]
      simp only [e]
      split
      · rw [List.filter_cons_of_neg (by simpa using hr), ih]
      · exact ih
theorem spCut_other {r q t : Nat} (hq : q ≠ r) (l : List (Nat × Nat × Nat × Nat)) (hl : ∀ x, x ∈ l → x.2.2.1 < x.2.2.2) : (spCut r t l).filter (fun x => decide (x.1 = q)) = l.filter (fun x => decide (x.1 = q)) := by
  induction l with
  | nil => rfl
  | cons x l ih =>
    have ih := ih (fun y hy => hl y (List.mem_cons_of_mem _ hy))
    have hx := hl x List.mem_cons_self
    simp only [spCut]
    by_cases hr : x.1 = q
    · have e : spCut1 r t x = x := if_neg (fun h => by omega)
      simp only [e]
      rw [if_pos hx, List.filter_cons_of_pos (by simpa using hr), List.filter_cons_of_pos (by simpa using hr), ih]
    · have e : (spCut1 r t x).1 = x.1 := by unfold spCut1; split <;> rfl
      rw [List.filter_cons_of_neg (p := fun (x : Nat × Nat × Nat × Nat) => decide (x.1 = q)) (a := x) (by simpa using hr)]
      split
      · rw [List.filter_cons_of_neg (by rw [e]; simpa using hr), ih]
      · exact ih
section
variable {T : TabS} {S : MdS}
theorem dropN_keep (r : Nat) : ∀ n t T s, (∀ u, t ≤ u → u < t + n → u % 256 ≠ s) → (TabS.dropN r t n T).2.pl r s = T.pl r s := by
  intro n
  induction n with
  | zero => intro t T s _; rfl
  | succ n ih =>
    intro t T s h
    simp only [TabS.dropN]
    rw [ih (t + 1) _ s (fun u h1 h2 => h u (by omega) (by omega)), TabS.drop_pl, if_neg (fun hh => h t (Nat.le_refl _) (by omega) hh.2.symm)]
theorem RT.spb (h : RT T S) (ho : Ord T) : ∀ x, x ∈ S.sp → T.base ≤ x.2.2.1 ∧ x.2.2.1 < x.2.2.2 := by
  intro x hx
  exact (ho x.1 (h.sr x hx)).1 x.2 ((h.mem_sp (h.sr x hx) x.2).1 hx)
theorem RT.cut (h : RT T S) (g : Fit T) {r t : Nat} (hr : r < T.nr) (ht : T.base ≤ t) : RT (T.trunc r t).2 (S.cut r t) := by
  obtain ⟨f1, f2, f3⟩ := trunc_fix (T := T) (r := r) (t := t)
  have hcap : (T.trunc r t).2.cap = T.cap := (TabS.dropN_fix r (T.base + 256 - t) t T).2.2.2.2
  refine ⟨by rw [f3]; exact h.nc, by rw [f2]; exact h.nr, by rw [hcap]; exact h.cap, by rw [f1]; exact h.base, fun q d u => ?_, ?_, fun q hq => ?_, fun x hx => ?_⟩
  · show (q, d, u) ∈ trCut r t S.tr ↔ _
    rw [trCut_filter, List.mem_filter, h.tm, f1, f2]
    simp only [decide_eq_true_eq]
    by_cases e : q = r
    · subst e
      have hpl : (T.trunc q t).2.pl = (TabS.dropN q t (T.base + 256 - t) T).2.pl := rfl
      rw [hpl]
      constructor
      · rintro ⟨⟨h1, h2, h3, h4⟩, h5⟩
        refine ⟨h1, h2, h3, ?_⟩
        rw [dropN_keep q _ t T (u % 256) (fun v v1 v2 => by omega)]
        exact h4
      · rintro ⟨h1, h2, h3, h4⟩
        have hut : u < t := by
          rcases Nat.lt_or_ge u t with hx | hx
          · exact hx
          · have := TabS.dropN_gone q (T.base + 256 - t) t T u hx (by omega)
            rw [this] at h4
            omega
        rw [dropN_keep q _ t T (u % 256) (fun v v1 v2 => by omega)] at h4
        exact ⟨⟨h1, h2, h3, h4⟩, Or.inr hut⟩
    · rw [trunc_pl e]
      constructor
      · rintro ⟨h1, -⟩; exact h1
      · intro h1; exact ⟨h1, Or.inl e⟩
  · show (trCut r t S.tr).Nodup
    rw [trCut_filter]
    exact h.nd.filter _
  · rw [f2] at hq
    show ((spCut r t S.sp).filter (fun (x : Nat × Nat × Nat × Nat) => decide (x.1 = q))).map (fun (x : Nat × Nat × Nat × Nat) => x.2) = _
    rw [trunc_sp]
    by_cases e : q = r
    · subst e
      rw [upd_at, spCut_same, h.sp q hq]
      exact (cut_is _ _ rfl (g.ord q hq)).symm
    · rw [upd_ne _ _ e, spCut_other e S.sp (fun x hx => (h.spb g.ord x hx).2)]
      exact h.sp q hq
  · rw [f2]
    obtain ⟨y, hy, e⟩ : ∃ y, y ∈ S.sp ∧ x.1 = y.1 := by
      have : ∀ l : List (Nat × Nat × Nat × Nat), x ∈ spCut r t l → ∃ y, y ∈ l ∧ x.1 = y.1 := by
        intro l
        induction l with
        | nil => intro hh; cases hh
        | cons z l ih =>
          intro hh
          simp only [spCut] at hh
          have e : (spCut1 r t z).1 = z.1 := by unfold spCut1; split <;> rfl
          split at hh
          · rcases List.mem_cons.1 hh with rfl | hh
            · exact ⟨z, List.mem_cons_self, e⟩
            · obtain ⟨y, h1, h2⟩ := ih hh; exact ⟨y, List.mem_cons_of_mem _ h1, h2⟩
          · obtain ⟨y, h1, h2⟩ := ih hh; exact ⟨y, List.mem_cons_of_mem _ h1, h2⟩
      exact this S.sp hx
    rw [e]
    exact h.sr y hy
/-! how many -/
theorem trCut_cnt (r t : Nat) (l : List (Nat × Nat × Nat)) : l.length = (trCut r t l).length + cntTr r t l := by
  induction l with
  | nil => rfl
  | cons x l ih =>
    simp only [trCut, cntTr, List.length_cons]
    by_cases h : x.1 ≠ r ∨ x.2.2 < t
    · rw [if_pos h, if_neg (by omega), List.length_cons]; omega
    · rw [if_neg h, if_pos (by omega)]; omega
theorem spCut_cnt (r t : Nat) (l : List (Nat × Nat × Nat × Nat)) (hl : ∀ x, x ∈ l → x.2.2.1 < x.2.2.2) : l.length = (spCut r t l).length + cntSp r t l := by
  induction l with
  | nil => rfl
  | cons x l ih =>
    have ih := ih (fun y hy => hl y (List.mem_cons_of_mem _ hy))
    have hx := hl x List.mem_cons_self
    simp only [spCut, cntSp, List.length_cons]
    by_cases h : x.1 = r ∧ t ≤ x.2.2.1
    · have e : spCut1 r t x = (x.1, x.2.1, x.2.2.1, t) := if_pos ⟨h.1, by omega⟩
      simp only [e]
      rw [if_neg (by omega), if_pos (by omega)]
      omega
    · rw [if_neg (show ¬ ((x.1 : Int) = (r : Int) ∧ (t : Int) ≤ (x.2.2.1 : Int)) by omega)]
      have hk : (spCut1 r t x).2.2.1 < (spCut1 r t x).2.2.2 := by
        unfold spCut1
        split
        · next h2 => simp only; omega
        · exact hx
      rw [if_pos hk, List.length_cons]
      omega
theorem cntTr_filter (r t : Int) (l : List (Nat × Nat × Nat)) : cntTr r t l = (l.filter (fun x => decide ((x.1 : Int) = r ∧ t ≤ (x.2.2 : Int)))).length := by
  induction l with
  | nil => rfl
  | cons x l ih =>
    simp only [cntTr]
    by_cases h : (x.1 : Int) = r ∧ t ≤ (x.2.2 : Int)
    · rw [if_pos h, List.filter_cons_of_pos (by simpa using h), List.length_cons, ih]
    · rw [if_neg h, List.filter_cons_of_neg (by simpa using h), ih]
theorem cntP_len (r : Nat) : ∀ n t, T.cntP r t n = (T.tripR r t n).length := by
  intro n
  induction n with
  | zero => intro t; rfl
  | succ n ih =>
    intro t
    simp only [TabS.cntP, TabS.tripR]
    split
    · rw [ih]; omega
    · rw [List.length_cons, ih]; omega
theorem RT.cnt_tr (h : RT T S) (hb : TBd T) {r t : Nat} (hr : r < T.nr) (ht : T.base ≤ t) : cntTr r t S.tr = T.cntP r t (T.base + 256 - t) := by
  rw [cntTr_filter, cntP_len]
  refine len_same (h.nd.filter _) (tripR_nodup hb hr _ _) (fun x => ?_)
  obtain ⟨q, d, u⟩ := x
  rw [List.mem_filter, h.tm, tripR_iff hb hr]
  simp only [decide_eq_true_eq]
  constructor
  · rintro ⟨⟨h1, h2, h3, h4⟩, h5, h6⟩
    have e : q = r := by omega
    subst e
    exact ⟨rfl, by omega, by omega, h4⟩
  · rintro ⟨rfl, h2, h3, h4⟩
    exact ⟨⟨hr, by omega, by omega, h4⟩, rfl, by omega⟩
theorem cntSp_from (r t : Nat) (l : List (Nat × Nat × Nat × Nat)) : cntSp r t l = spFrom ((l.filter (fun x => decide (x.1 = r))).map (fun x => x.2)) t := by
  induction l with
  | nil => rfl
  | cons x l ih =>
    simp only [cntSp]
    by_cases hr : x.1 = r
    · rw [List.filter_cons_of_pos (by simpa using hr), List.map_cons]
      simp only [spFrom]
      by_cases ht : t ≤ x.2.2.1
      · rw [if_pos (by omega), if_pos ht, ih]; omega
      · rw [if_neg (by omega), if_neg ht, ih]; omega
    · rw [List.filter_cons_of_neg (by simpa using hr), if_neg (by omega)]; exact ih
theorem RT.remov (h : RT T S) (hb : TBd T) {r t : Nat} (hr : r < T.nr) (ht : T.base ≤ t) : cntTr r t S.tr + cntSp r t S.sp = T.remov r t := by
  unfold TabS.remov
  rw [h.cnt_tr hb hr ht, cntSp_from, h.sp r hr]
theorem RT.trunc (h : RT T S) (g : Fit T) {r t : Nat} (hr : r < T.nr) (ht : T.base ≤ t) : (S.trunc r t).1 = ((T.trunc r t).1 : Int) := by
  rw [trunc_cnt g.ord hr ht, ← h.remov g.bd hr ht]
  have h1 := trCut_cnt r t S.tr
  have h2 := spCut_cnt r t S.sp (fun x hx => (h.spb g.ord x hx).2)
  simp only [MdS.trunc, MdS.cut]
  omega
theorem cntTr_zero {r t : Int} {l : List (Nat × Nat × Nat)} (h : ∀ x, x ∈ l → (x.1 : Int) ≠ r) : cntTr r t l = 0 := by
  induction l with
  | nil => rfl
  | cons x l ih =>
    simp only [Go.Proofs.Qxb6500717aGreat.cntTr]
    rw [if_neg (fun hh => h x List.mem_cons_self hh.1), ih (fun y hy => h y (List.mem_cons_of_mem _ hy))]
theorem cntSp_zero {r t : Int} {l : List (Nat × Nat × Nat × Nat)} (h : ∀ x, x ∈ l → (x.1 : Int) ≠ r) : cntSp r t l = 0 := by
  induction l with
  | nil => rfl
  | cons x l ih =>
    simp only [cntSp]
    rw [if_neg (fun hh => h x List.mem_cons_self hh.1), ih (fun y hy => h y (List.mem_cons_of_mem _ hy))]
theorem cntTr_low {r t b : Int} {l : List (Nat × Nat × Nat)} (h : ∀ x, x ∈ l → b ≤ (x.2.2 : Int)) : cntTr r (max t b) l = cntTr r t l := by
  induction l with
  | nil => rfl
  | cons x l ih =>
    have hx := h x List.mem_cons_self
    simp only [Go.Proofs.Qxb6500717aGreat.cntTr]
    rw [ih (fun y hy => h y (List.mem_cons_of_mem _ hy))]
    by_cases h1 : (x.1 : Int) = r ∧ t ≤ (x.2.2 : Int)
    · rw [if_pos h1, if_pos (by omega)]
    · rw [if_neg h1, if_neg (by omega)]
theorem cntSp_low {r t b : Int} {l : List (Nat × Nat × Nat × Nat)} (h : ∀ x, x ∈ l → b ≤ (x.2.2.1 : Int)) : cntSp r (max t b) l = cntSp r t l := by
  induction l with
  | nil => rfl
  | cons x l ih =>
    have hx := h x List.mem_cons_self
    simp only [cntSp]
    rw [ih (fun y hy => h y (List.mem_cons_of_mem _ hy))]
    by_cases h1 : (x.1 : Int) = r ∧ t ≤ (x.2.2.1 : Int)
    · rw [if_pos h1, if_pos (by omega)]
    · rw [if_neg h1, if_neg (by omega)]
theorem RT.tr_rb (h : RT T S) : ∀ x, x ∈ S.tr → x.1 < T.nr ∧ T.base ≤ x.2.2 := fun x hx => by
  obtain ⟨q, d, u⟩ := x
  obtain ⟨h1, h2, -⟩ := (h.tm q d u).1 hx
  exact ⟨h1, h2⟩
end
end Go.Proofs.Qxb6500717aGreat
