/-
  TableIsTripleList, plain: the table's lists are the model's, sorted. (Written over R's texts; turned to Z by portZ.py.)
-/
import Derived.Test.Qxb6500717aGreatLaw3
import Derived.Test.Qxb6500717aGreatSo8
namespace Go.Proofs.Qxb6500717aGreat
open Go.RowKit
set_option linter.unusedSimpArgs false
set_option linter.unusedVariables false
def encT (x : Nat × Nat × Nat) : List Value := [.int .i64 (x.1), .int .i64 (x.2.1), .int .i64 (x.2.2)]
def ltT (a b : Nat × Nat × Nat) : Bool := decide (a.1 < b.1 ∨ (a.1 = b.1 ∧ a.2.2 < b.2.2))
def encQ (x : Nat × Nat × Nat × Nat) : List Value := [.int .i64 (x.1), .int .i64 (x.2.1), .int .i64 (x.2.2.1), .int .i64 (x.2.2.2)]
def ltQ (a b : Nat × Nat × Nat × Nat) : Bool := decide (a.1 < b.1 ∨ (a.1 = b.1 ∧ a.2.2.1 < b.2.2.1))
theorem swoT : Sort.SWO ltT where
  irrefl := fun x => by simp [ltT]
  trans := fun x y z h1 h2 => by simp only [ltT, decide_eq_true_eq] at *; omega
  ntrans := fun x y z h1 h2 => by simp only [ltT, decide_eq_false_iff_not] at *; omega
theorem swoQ : Sort.SWO ltQ where
  irrefl := fun x => by simp [ltQ]
  trans := fun x y z h1 h2 => by simp only [ltQ, decide_eq_true_eq] at *; omega
  ntrans := fun x y z h1 h2 => by simp only [ltQ, decide_eq_false_iff_not] at *; omega
/-- A sorted permutation of the same elements is the one list. -/
theorem sort_is {α : Type} [Inhabited α] (lt : α → α → Bool) {H G : List α} {d' : Array α} (hp : Sort.PermIn 0 H.toArray.size H.toArray d') (hs : Sort.SortedIn lt 0 H.toArray.size d') (hG : G.Pairwise (fun a b => lt b a = false)) (hperm : H.Perm G) (hinj : ∀ a b, a ∈ G → b ∈ G → lt b a = false → lt a b = false → a = b) : d'.toList = G := by
  obtain ⟨e1, -, e3⟩ := hp
  have e4 : d'.toList.Perm H := by
    have a1 : d'.extract 0 H.toArray.size = d' := by rw [← e1]; exact Array.extract_size
    rw [a1, Array.extract_size] at e3
    exact e3
  have e5 := e4.trans hperm
  refine List.Perm.eq_of_pairwise (le := fun a b => lt b a = false) (fun a b ha hb h1 h2 => hinj a b (e5.mem_iff.1 ha) hb h1 h2) ?_ hG e5
  rw [List.pairwise_iff_getElem]
  intro i j hi hj hij
  have hi' : i < d'.size := by simpa using hi
  have hj' : j < d'.size := by simpa using hj
  have := hs i j (Nat.zero_le _) hij (by omega)
  rw [getElem!_pos d' j hj', getElem!_pos d' i hi'] at this
  simpa using this
section
variable {T : TabS} {S : MdS}
theorem tripR_r {r : Nat} {x : Nat × Nat × Nat} : ∀ n t, x ∈ T.tripR r t n → x.1 = r ∧ t ≤ x.2.2
  | 0, t, h => by simp [TabS.tripR] at h
  | n + 1, t, h => by
    unfold TabS.tripR at h
    split at h
    · have := tripR_r n (t + 1) h; omega
    · rcases List.mem_cons.1 h with rfl | h
      · exact ⟨rfl, Nat.le_refl _⟩
      · have := tripR_r n (t + 1) h; omega
theorem tripR_pw (r : Nat) : ∀ n t, (T.tripR r t n).Pairwise (fun a b => ltT b a = false)
  | 0, t => List.Pairwise.nil
  | n + 1, t => by
    unfold TabS.tripR
    split
    · exact tripR_pw r n (t + 1)
    · refine List.pairwise_cons.2 ⟨fun y hy => ?_, tripR_pw r n (t + 1)⟩
      have := tripR_r n (t + 1) hy
      simp only [ltT, decide_eq_false_iff_not]
      omega
theorem tripN_k {x : Nat × Nat × Nat} : ∀ n k, x ∈ T.tripN k n → k ≤ x.1
  | 0, k, h => by simp [TabS.tripN] at h
  | n + 1, k, h => by
    unfold TabS.tripN at h
    rcases List.mem_append.1 h with h | h
    · have := tripR_r _ _ h; omega
    · have := tripN_k n (k + 1) h; omega
theorem tripN_pw : ∀ n k, (T.tripN k n).Pairwise (fun a b => ltT b a = false)
  | 0, k => List.Pairwise.nil
  | n + 1, k => by
    unfold TabS.tripN
    refine List.pairwise_append.2 ⟨tripR_pw _ _ _, tripN_pw n (k + 1), fun a ha b hb => ?_⟩
    have h1 := tripR_r _ _ ha
    have h2 := tripN_k _ _ hb
    simp only [ltT, decide_eq_false_iff_not]
    omega
theorem RT.tr_perm (h : RT T S) (hb : TBd T) : S.tr.Perm T.trips := by
  refine (List.perm_ext_iff_of_nodup h.nd (tripN_nodup hb T.nr 0 (by omega))).2 (fun ⟨r, c, t⟩ => ?_)
  rw [h.tm r c t]
  show _ ↔ (r, c, t) ∈ T.tripN 0 T.nr
  rw [tripN_iff hb r c t T.nr 0 (by omega)]
  omega
theorem RT.tr_sort (h : RT T S) (hb : TBd T) {d' : Array (Nat × Nat × Nat)} (hp : Sort.PermIn 0 S.tr.toArray.size S.tr.toArray d') (hs : Sort.SortedIn ltT 0 S.tr.toArray.size d') : d'.toList = T.trips := by
  refine sort_is ltT hp hs (tripN_pw T.nr 0) (h.tr_perm hb) ?_
  rintro ⟨r, c, t⟩ ⟨r', c', t'⟩ ha hb' h1 h2
  simp only [ltT, decide_eq_false_iff_not] at h1 h2
  have e1 : r = r' := by omega
  have e2 : t = t' := by omega
  subst e1 e2
  have a1 := ((tripN_iff hb r c t T.nr 0 (by omega)).1 ha).2.2.2
  have a2 := ((tripN_iff hb r c' t T.nr 0 (by omega)).1 hb').2.2.2
  have : (c : Int) = c' := a1.symm.trans a2
  have : c = c' := by omega
  subst this
  rfl
theorem SOrd.pw {b : Nat} {l : List (Nat × Nat × Nat)} (h : SOrd b l) : l.Pairwise (fun x y => x.2.1 < y.2.1) := by
  rw [List.pairwise_iff_getElem]
  intro i j hi hj hij
  have h1 := List.pairwise_iff_getElem.1 h.2 i j hi hj hij
  have h2 := h.1 _ (List.getElem_mem hi)
  omega
theorem from_inj {l : List (Nat × Nat × Nat)} (h : l.Pairwise (fun x y => x.2.1 < y.2.1)) {x y : Nat × Nat × Nat} (hx : x ∈ l) (hy : y ∈ l) (e : x.2.1 = y.2.1) : x = y := by
  obtain ⟨i, hi, rfl⟩ := List.getElem_of_mem hx
  obtain ⟨j, hj, rfl⟩ := List.getElem_of_mem hy
  have hp := List.pairwise_iff_getElem.1 h
  rcases Nat.lt_trichotomy i j with hh | hh | hh
  · have := hp i j hi hj hh; omega
  · subst hh; rfl
  · have := hp j i hj hi hh; omega
theorem spanN_iff (a : Nat × Nat × Nat × Nat) : ∀ n k, a ∈ T.spanN k n ↔ k ≤ a.1 ∧ a.1 < k + n ∧ a.2 ∈ T.sp a.1
  | 0, k => by simp [TabS.spanN]; omega
  | n + 1, k => by
    unfold TabS.spanN
    rw [List.mem_append, spanN_iff a n (k + 1), List.mem_map]
    constructor
    · rintro (⟨x, hx, rfl⟩ | ⟨h1, h2, h3⟩)
      · exact ⟨Nat.le_refl _, by simp only; omega, hx⟩
      · exact ⟨by omega, by omega, h3⟩
    · rintro ⟨h1, h2, h3⟩
      by_cases e : a.1 = k
      · left
        rw [e] at h3
        exact ⟨a.2, h3, by rw [← e]⟩
      · right
        exact ⟨by omega, by omega, h3⟩
theorem spanN_pw (ho : Ord T) : ∀ n k, k + n ≤ T.nr → (T.spanN k n).Pairwise (fun a b => ltQ a b = true)
  | 0, k, _ => List.Pairwise.nil
  | n + 1, k, hk => by
    unfold TabS.spanN
    refine List.pairwise_append.2 ⟨?_, spanN_pw ho n (k + 1) (by omega), fun a ha b hb => ?_⟩
    · rw [List.pairwise_map]
      exact ((ho k (by omega)).pw).imp (fun h => by simp only [ltQ, decide_eq_true_eq]; exact Or.inr ⟨trivial, h⟩)
    · obtain ⟨x, hx, rfl⟩ := List.mem_map.1 ha
      have := (spanN_iff b n (k + 1)).1 hb
      simp only [ltQ, decide_eq_true_eq]
      omega
theorem spans_nodup (ho : Ord T) : T.spans.Nodup := by
  have := spanN_pw ho T.nr 0 (by omega)
  refine List.nodup_iff_pairwise_ne.2 (this.imp (fun {a b} h e => ?_))
  subst e
  simp [ltQ] at h
theorem RT.sp_nodup (h : RT T S) (ho : Ord T) : S.sp.Nodup := by
  rw [List.nodup_iff_count]
  intro a
  by_cases ha : a ∈ S.sp
  · have hr := h.sr a ha
    have e1 : List.count a (S.sp.filter (fun x => decide (x.1 = a.1))) = List.count a S.sp := List.count_filter (by simp)
    have e2 : List.count a (S.sp.filter (fun x => decide (x.1 = a.1))) ≤ List.count a.2 ((S.sp.filter (fun x => decide (x.1 = a.1))).map (fun x => x.2)) := List.count_le_count_map
    rw [h.sp a.1 hr] at e2
    have e3 : (T.sp a.1).Nodup := List.nodup_iff_pairwise_ne.2 ((ho a.1 hr).pw.imp (fun {x y} h e => by subst e; omega))
    have e4 := List.nodup_iff_count.1 e3 a.2
    omega
  · rw [List.count_eq_zero_of_not_mem ha]; omega
theorem RT.sp_perm (h : RT T S) (ho : Ord T) : S.sp.Perm T.spans := by
  refine (List.perm_ext_iff_of_nodup (h.sp_nodup ho) (spans_nodup ho)).2 (fun a => ?_)
  unfold TabS.spans
  rw [spanN_iff a T.nr 0]
  constructor
  · intro ha
    have hr := h.sr a ha
    refine ⟨Nat.zero_le _, by omega, ?_⟩
    rw [← h.sp a.1 hr]
    exact List.mem_map.2 ⟨a, List.mem_filter.2 ⟨ha, by simp⟩, rfl⟩
  · rintro ⟨-, h2, h3⟩
    rw [← h.sp a.1 (by omega)] at h3
    obtain ⟨y, hy, e⟩ := List.mem_map.1 h3
    obtain ⟨h4, h5⟩ := List.mem_filter.1 hy
    simp at h5
    have : y = a := Prod.ext h5 e
    exact this ▸ h4
theorem RT.sp_sort (h : RT T S) (ho : Ord T) {d' : Array (Nat × Nat × Nat × Nat)} (hp : Sort.PermIn 0 S.sp.toArray.size S.sp.toArray d') (hs : Sort.SortedIn ltQ 0 S.sp.toArray.size d') : d'.toList = T.spans := by
  refine sort_is ltQ hp hs ((spanN_pw ho T.nr 0 (by omega)).imp (fun {a b} h => by simp only [ltQ, decide_eq_true_eq, decide_eq_false_iff_not] at *; omega)) (h.sp_perm ho) ?_
  intro a b ha hb h1 h2
  have a1 := (spanN_iff a T.nr 0).1 ha
  have a2 := (spanN_iff b T.nr 0).1 hb
  simp only [ltQ, decide_eq_false_iff_not] at h1 h2
  have e1 : a.1 = b.1 := by omega
  have e2 : a.2.2.1 = b.2.2.1 := by omega
  have a3 := a2.2.2
  rw [← e1] at a3
  exact Prod.ext e1 (from_inj (ho a.1 (by omega)).pw a1.2.2 a3 e2)
end
/-- Without a table the model is empty. -/
def Em (S : MdS) : Prop := S.has = false → S.tr = [] ∧ S.sp = [] ∧ S.base = 0
theorem Em.step {Q Q' : DkS} {M M' : ModS} {o : Opr} {xc : Int} {xv : List Int} (h : Em M.S) (hr : Rel Q M) (hr' : Rel Q' M') (hO : Q'.O = (stepO Q.O o).2) (hK : ¬ (14 ≤ o.K ∧ o.K ≤ 23)) (hY : mdRel M o ((xc, xv), M')) : Em M'.S := by
  intro hf
  have hn : Q'.O = none := by
    have := hr'.tab
    cases e : Q'.O with
    | none => rfl
    | some T => rw [e] at this; exact absurd (this.1.symm.trans hf) (by simp)
  have hq : Q.O = none := by
    rw [hO] at hn
    unfold stepO stepNew at hn
    cases e : Q.O with
    | none => rfl
    | some T =>
      rw [e] at hn
      split at hn
      · split at hn <;> simp at hn
      · first | (simp at hn; done) | (rw [if_neg hK] at hn; simp at hn)
  have hf0 : M.S.has = false := by have := hr.tab; rw [hq] at this; exact this
  unfold mdRel at hY
  rw [if_neg (by omega), if_neg (by omega)] at hY
  unfold mdFun at hY
  by_cases h0 : o.K = 0
  · rw [if_pos h0] at hY
    simp only [Prod.mk.injEq] at hY
    rw [hY.2] at hf ⊢
    simp only at hf ⊢
    unfold MdS.init at hf ⊢
    split at hf
    · simp at hf
    · rename_i hc
      rw [if_neg hc]
      exact h hf
  · rw [if_neg h0, if_neg (by omega), if_neg (by omega), if_neg (by omega), if_neg (by omega), if_neg (by omega), if_neg (by omega), if_neg (by omega), if_neg (by omega), if_pos hf0] at hY
    simp only [Prod.mk.injEq] at hY
    rw [hY.2] at hf ⊢
    exact h hf
end Go.Proofs.Qxb6500717aGreat
