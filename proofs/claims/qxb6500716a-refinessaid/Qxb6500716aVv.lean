/-
  Verify and Valid agree (plain).
-/
import Derived.Test.Qxb6500716aVu
import Derived.Test.Qxb6500716aUc
namespace Go.Proofs.Qxb6500716a
open Go.RowKit Go.Maps
set_option linter.unusedSimpArgs false
set_option linter.unusedVariables false
set_option maxRecDepth 20000
set_option maxHeartbeats 4000000
theorem cfC_iff (T : TS) (r : Int) : ∀ (l : List Int) (t : Int), cfC T r t l = true ↔ ∀ i, i < l.length → T.freeC r (l.getD i 0) (t + i) = true
  | [], t => by simp [cfC]
  | c :: l, t => by
    rw [cfC]
    have ih := cfC_iff T r l (t + 1)
    constructor
    · intro h i hi
      split at h
      · cases h
      · rename_i e
        cases i with
        | zero => simpa using e
        | succ i =>
          have := ih.1 h i (by simp at hi; omega)
          rw [show t + ((i + 1 : Nat) : Int) = t + 1 + i by omega]
          simpa using this
    · intro h
      have h0 := h 0 (by simp)
      rw [if_neg (by simp at h0; simp [h0])]
      refine ih.2 (fun i hi => ?_)
      have := h (i + 1) (by simp; omega)
      rw [show t + ((i + 1 : Nat) : Int) = t + 1 + i by omega] at this
      simpa using this
theorem cfM_iff (T : TS) (r : Int) : ∀ (l : List Int) (t a : Int), cfM T r t a l = true ↔ ∀ i, i < l.length → T.freeM r ((a :: l).getD i 0) (l.getD i 0) (t + i) = true
  | [], t, a => by simp [cfM]
  | c :: l, t, a => by
    rw [cfM]
    have ih := cfM_iff T r l (t + 1) c
    constructor
    · intro h i hi
      split at h
      · cases h
      · rename_i e
        cases i with
        | zero => simpa using e
        | succ i =>
          have := ih.1 h i (by simp at hi; omega)
          rw [show t + ((i + 1 : Nat) : Int) = t + 1 + i by omega]
          simpa using this
    · intro h
      have h0 := h 0 (by simp)
      rw [if_neg (by simp at h0; simp [h0])]
      refine ih.2 (fun i hi => ?_)
      have := h (i + 1) (by simp; omega)
      rw [show t + ((i + 1 : Nat) : Int) = t + 1 + i by omega] at this
      simpa using this
theorem jmp_valid {F : FS} : ∀ (l : List Int) (a : Int), F.valid a = true → jmp F a l = true → ∀ x, x ∈ a :: l → F.valid x = true
  | [], a, ha, _, x, hx => by
    rw [List.mem_singleton] at hx
    rw [hx]
    exact ha
  | b :: l, a, ha, h, x, hx => by
    rw [jmp] at h
    split at h
    · cases h
    · rename_i e
      have hb : F.valid b = true := by
        by_cases e1 : a = b
        · rw [← e1]
          exact ha
        · cases hj : F.adj a b with
          | false => exact absurd ⟨e1, hj⟩ e
          | true =>
            unfold FS.adj at hj
            simp only [Bool.and_eq_true] at hj
            exact hj.1.2
      rcases List.mem_cons.mp hx with h1 | h1
      · rw [h1]
        exact ha
      · exact jmp_valid l b hb h x h1
theorem vrI_iff (T : TS) (r t : Int) (path : List Int) (k : Int) : ∀ (n i : Nat), vrI T r t path k i n = true ↔ ∀ j, i ≤ j → j < i + n → vr1 T r t path k j = false
  | 0, i => by
    rw [vrI]
    exact ⟨fun _ j h1 h2 => by omega, fun _ => rfl⟩
  | n + 1, i => by
    rw [vrI]
    have ih := vrI_iff T r t path k n (i + 1)
    constructor
    · intro h j h1 h2
      split at h
      · cases h
      · rename_i e
        by_cases ej : j = i
        · rw [ej]
          simpa using e
        · exact ih.1 h j (by omega) (by omega)
    · intro h
      rw [if_neg (by rw [h i (by omega) (by omega)]; simp)]
      exact ih.2 (fun j h1 h2 => h j (by omega) (by omega))
theorem vrK_iff (T : TS) (r t : Int) (path : List Int) : ∀ (n i : Nat), vrK T r t path i n = true ↔ ∀ j : Nat, i ≤ j → j < i + n → (j : Int) ≠ r → vrI T r t path j 0 path.length = true
  | 0, i => by
    rw [vrK]
    exact ⟨fun _ j h1 h2 => by omega, fun _ => rfl⟩
  | n + 1, i => by
    rw [vrK]
    have ih := vrK_iff T r t path n (i + 1)
    constructor
    · intro h j h1 h2 hr
      split at h
      · cases h
      · rename_i e
        by_cases ej : j = i
        · subst ej
          cases hv : vrI T r t path j 0 path.length with
          | true => rfl
          | false => exact absurd ⟨hr, hv⟩ e
        · exact ih.1 h j (by omega) (by omega) hr
    · intro h
      rw [if_neg (fun e => by
        have := h i (by omega) (by omega) e.1
        rw [e.2] at this
        cases this)]
      exact ih.2 (fun j h1 h2 hr => h j (by omega) (by omega) hr)
/-- The two tests for other robots agree. -/
theorem cfl_vrK {F : FS} {T : TS} {q : Rq} (hF : FOk F) (hT : TInv T) (hC : T.Cel) (hnr : T.nr = F.bays.length) (hnc : T.nc = F.n) (h0 : rcode F T q = 0) (a : Int) (l : List Int) (hv : ∀ x, x ∈ a :: l → F.valid x = true) (hl : l.length ≤ 1000) :
    cfl T q.r q.t (a :: l) = 0 ↔ (vrK T q.r q.t (a :: l) 0 F.bays.length = true ∧ T.freeF q.r ((a :: l).getD l.length 0) (q.t + l.length) = true) := by
  have hrk := rok_of hF h0
  have hr := hrk.r
  have ht := hrk.t
  have hb := hT.base
  have hva : ∀ i, i < (a :: l).length → 0 ≤ (a :: l).getD i 0 ∧ (a :: l).getD i 0 < (F.n : Int) := fun i hi => by
    rw [List.getD_eq_getElem?_getD, List.getElem?_eq_getElem hi]
    exact FS.valid_iff.1 (hv _ (List.getElem_mem hi))
  have hlen : (a :: l).length = l.length + 1 := rfl
  unfold cfl
  rw [show (a :: l).getD 0 0 = a from rfl, show (a :: l).drop 1 = l from rfl, show (a :: l).length - 1 = l.length from rfl, show q.t + (((a :: l).length : Nat) : Int) - 1 = q.t + l.length by rw [hlen]; omega]
  rw [vrK_iff]
  have key : ((∀ i, i < (a :: l).length → T.freeC q.r ((a :: l).getD i 0) (q.t + i) = true) ∧ (T.at q.r (q.t - 1) ≠ -1 → T.freeM q.r (T.at q.r (q.t - 1)) a (q.t - 1) = true) ∧ (∀ i, i < l.length → T.freeM q.r ((a :: l).getD i 0) (l.getD i 0) (q.t + i) = true)) ↔ ∀ j : Nat, 0 ≤ j → j < 0 + F.bays.length → (j : Int) ≠ q.r → vrI T q.r q.t (a :: l) j 0 (a :: l).length = true := by
    constructor
    · rintro ⟨k1, k2, k3⟩ j - hj hjr
      rw [vrI_iff]
      rintro i - hi
      have hjn : j < T.nr := by omega
      have a1 := freeC_at hT (k1 i (by omega)) j hjn hjr
      unfold vr1
      have a2 : ¬ (whr T q.r q.t (a :: l) i ≠ -1 ∧ whr T q.r q.t (a :: l) i ≠ (a :: l).getD i 0 ∧ T.at j (q.t + i - 1) = (a :: l).getD i 0 ∧ T.at j (q.t + i) = whr T q.r q.t (a :: l) i) := by
        unfold whr
        cases i with
        | zero =>
          rw [if_pos rfl, show (a :: l).getD 0 0 = a from rfl, show q.t + ((0 : Nat) : Int) = q.t by omega]
          rintro ⟨b1, b2, b3, b4⟩
          have := (freeM_at hT (k2 b1) j hjn hjr).2
          rw [show q.t - 1 + 1 = q.t by omega] at this
          exact this ⟨b2, b3, b4⟩
        | succ i =>
          rw [if_neg (by omega), show i + 1 - 1 = i from rfl, show (a :: l).getD (i + 1) 0 = l.getD i 0 from rfl, show q.t + ((i + 1 : Nat) : Int) - 1 = q.t + i by omega, show q.t + ((i + 1 : Nat) : Int) = q.t + i + 1 by omega]
          rintro ⟨b1, b2, b3, b4⟩
          exact (freeM_at hT (k3 i (by simp at hi; omega)) j hjn hjr).2 ⟨b2, b3, b4⟩
      simp only [Bool.or_eq_false_iff, decide_eq_false_iff_not]
      refine ⟨a1, ?_⟩
      rw [← Bool.not_eq_true]
      simp only [Bool.and_eq_true, decide_eq_true_eq]
      exact a2
    · intro h
      have h' : ∀ j : Nat, j < T.nr → (j : Int) ≠ q.r → ∀ i, i < (a :: l).length → T.at j (q.t + i) ≠ (a :: l).getD i 0 ∧ ¬ (whr T q.r q.t (a :: l) i ≠ -1 ∧ whr T q.r q.t (a :: l) i ≠ (a :: l).getD i 0 ∧ T.at j (q.t + i - 1) = (a :: l).getD i 0 ∧ T.at j (q.t + i) = whr T q.r q.t (a :: l) i) := fun j hj hjr i hi => by
        have := (vrI_iff _ _ _ _ _ _ _).1 (h j (by omega) (by omega) hjr) i (by omega) (by omega)
        unfold vr1 at this
        rw [Bool.or_eq_false_iff, decide_eq_false_iff_not, ← Bool.not_eq_true] at this
        simp only [Bool.and_eq_true, decide_eq_true_eq] at this
        exact this
      refine ⟨fun i hi => ?_, fun hne => ?_, fun i hi => ?_⟩
      · have := hva i hi
        refine freeC_of (by omega) (by omega) ⟨by omega, by simp at hi; omega⟩ (fun j hj hjr => (h' j hj hjr i hi).1)
      · have hge : (T.base : Int) ≤ q.t - 1 := by
          rcases Int.lt_or_le (q.t - 1) (T.base : Int) with h1 | h1
          · exact absurd (hT.old _ _ h1) hne
          · exact h1
        have h3 := hC q.r (q.t - 1)
        have h4 : 0 ≤ T.at q.r (q.t - 1) := by
          have := at_ge (T := T) hT.m q.r (q.t - 1)
          omega
        have h5 := hva 0 (by simp)
        rw [show (a :: l).getD 0 0 = a from rfl] at h5
        refine freeM_of (by omega) ⟨h4, h3⟩ (by omega) ⟨hge, by omega⟩ (fun j h1 h2 => ?_)
        have := h' j h1 h2 0 (by simp)
        unfold whr at this
        rw [if_pos rfl, show (a :: l).getD 0 0 = a from rfl, show q.t + ((0 : Nat) : Int) = q.t by omega] at this
        rw [show q.t - 1 + 1 = q.t by omega]
        exact ⟨this.1, fun ⟨a1, a2, a3⟩ => this.2 ⟨hne, a1, a2, a3⟩⟩
      · have h4 := hva i (by simp; omega)
        have h5 := hva (i + 1) (by simp; omega)
        rw [show (a :: l).getD (i + 1) 0 = l.getD i 0 from rfl] at h5
        refine freeM_of (by omega) (by omega) (by omega) ⟨by omega, by omega⟩ (fun j h1 h2 => ?_)
        have := h' j h1 h2 (i + 1) (by simp; omega)
        unfold whr at this
        rw [if_neg (by omega), show i + 1 - 1 = i from rfl, show (a :: l).getD (i + 1) 0 = l.getD i 0 from rfl, show q.t + ((i + 1 : Nat) : Int) - 1 = q.t + i by omega, show q.t + ((i + 1 : Nat) : Int) = q.t + i + 1 by omega] at this
        exact ⟨this.1, fun ⟨a1, a2, a3⟩ => this.2 ⟨by omega, a1, a2, a3⟩⟩
  rw [← key]
  constructor
  · intro h
    split at h
    · omega
    · rename_i g1
      split at h
      · omega
      · rename_i g2
        split at h
        · omega
        · rename_i g3
          split at h
          · omega
          · rename_i g4
            refine ⟨⟨(cfC_iff T q.r (a :: l) q.t).1 (by simpa using g1), fun hne => ?_, (cfM_iff T q.r l q.t a).1 (by simpa using g4)⟩, by simpa using g2⟩
            cases hm : T.freeM q.r (T.at q.r (q.t - 1)) a (q.t - 1) with
            | true => rfl
            | false => exact absurd ⟨hne, hm⟩ g3
  · rintro ⟨⟨k1, k2, k3⟩, k4⟩
    rw [if_neg (by rw [(cfC_iff T q.r (a :: l) q.t).2 k1]; simp), if_neg (by rw [k4]; simp), if_neg (fun g => by rw [k2 g.1] at g; cases g.2), if_neg (by rw [(cfM_iff T q.r l q.t a).2 k3]; simp)]
/-- Verify finds a plan sound just if the model holds it valid. -/
theorem ver_val {F : FS} {T : TS} {q : Rq} (hF : FOk F) (hT : TInv T) (hC : T.Cel) (hnr : T.nr = F.bays.length) (hnc : T.nc = F.n) (h0 : rcode F T q = 0) (c t : Int) (path done : List Int) (hl : path.length ≤ 1000) :
    ver F T q c t path done = 0 ↔ val F T q c t path done = true := by
  unfold ver val
  by_cases g1 : rcode F T q ≠ 0 ∨ c ≠ 0 ∨ path.length = 0 ∨ done.length ≠ q.gl.length
  · rw [if_pos g1, if_pos (by omega)]
    simp
  rw [if_neg g1]
  by_cases g2 : t ≠ q.t ∨ path.getD 0 0 ≠ q.s
  · rw [if_pos g2, if_pos (by omega)]
    simp
  rw [if_neg g2, if_neg (show ¬ (c ≠ 0 ∨ path.length = 0 ∨ done.length ≠ q.gl.length ∨ t ≠ q.t ∨ path.getD 0 0 ≠ q.s) by omega)]
  have ht : t = q.t := by omega
  subst ht
  by_cases g3 : jmp F (path.getD 0 0) (path.drop 1) = false
  · rw [if_pos g3, if_pos g3]
    simp
  rw [if_neg g3, if_neg g3]
  by_cases g4 : dwl path q.t (q.t + path.length - 1) q.t q.gl done = false
  · rw [if_pos g4, if_pos g4]
    simp
  rw [if_neg g4, if_neg g4]
  by_cases g5 : path.getD (path.length - 1) 0 ≠ (F.park q.r).1
  · rw [if_pos g5, if_pos (Or.inl g5)]
    simp
  rw [if_neg g5]
  by_cases g6 : q.h < (path.length : Int) - 1 ∨ (T.base : Int) + 256 ≤ q.t + path.length - 1
  · rw [if_pos g6, if_pos (Or.inr g6)]
    simp
  rw [if_neg g6, if_neg (show ¬ (path.getD (path.length - 1) 0 ≠ (F.park q.r).1 ∨ q.h < (path.length : Int) - 1 ∨ (T.base : Int) + 256 ≤ q.t + path.length - 1) from fun h => by rcases h with h | h; exact g5 h; exact g6 h)]
  obtain ⟨a, l, rfl⟩ : ∃ a l, path = a :: l := by
    cases path with
    | nil => simp at g1
    | cons a l => exact ⟨a, l, rfl⟩
  have hs := (rok_of hF h0).s
  rw [show (a :: l).getD 0 0 = a from rfl] at g2 g3
  rw [show (a :: l).drop 1 = l from rfl] at g3
  have hva : F.valid a = true := FS.valid_iff.2 (by omega)
  have hv := jmp_valid l a hva (by simpa using g3)
  rw [cfl_vrK hF hT hC hnr hnc h0 a l hv (by simp at hl; omega), show (a :: l).length - 1 = l.length from rfl, show q.t + (((a :: l).length : Nat) : Int) - 1 = q.t + l.length by rw [List.length_cons]; omega]
  constructor
  · rintro ⟨k1, k2⟩
    rw [if_neg (by rw [k1]; simp)]
    exact k2
  · intro h
    split at h
    · cases h
    · rename_i k
      exact ⟨by simpa using k, h⟩
end Go.Proofs.Qxb6500716a
