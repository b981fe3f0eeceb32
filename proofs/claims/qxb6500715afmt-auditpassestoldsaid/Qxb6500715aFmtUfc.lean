/-
  The groups when all edges are joined, plain.
-/
import Derived.Test.Qxb6500715aFmtGr2
import Derived.Test.Qxb6500715aFmtEdp
import Derived.Test.Qxb6500715aFmtBay
namespace Go.Proofs.Qxb6500715aFmt
open Go.RowKit
set_option linter.unusedSimpArgs false
set_option linter.unusedVariables false
theorem jrt_same {rt : Nat → Nat} {u v x y : Nat} (h : rt x = rt y) : jrt rt u v x = jrt rt u v y := by unfold jrt; rw [h]
theorem Joined.same {rt rt' : Nat → Nat} {a b x y : Nat} (h : Joined rt rt' a b) (hxy : rt x = rt y) : rt' x = rt' y := by
  rcases h with ⟨-, rfl⟩ | ⟨-, rfl | rfl⟩
  · exact hxy
  · exact jrt_same hxy
  · exact jrt_same hxy
theorem Joined.ab {rt rt' : Nat → Nat} {a b : Nat} (h : Joined rt rt' a b) : rt' a = rt' b := by
  rcases h with ⟨h, rfl⟩ | ⟨hn, rfl | rfl⟩
  · exact h
  · unfold jrt; rw [if_neg hn, if_pos rfl]
  · unfold jrt; rw [if_pos rfl, if_neg (fun e => hn e.symm)]
/-- A group of one that is neither a's nor b's is left alone. -/
theorem Joined.lone {rt rt' : Nat → Nat} {a b x : Nat} (h : Joined rt rt' a b) (hx : rt x = x ∧ ∀ y, rt y = x → y = x) (ha : a ≠ x) (hb : b ≠ x) : rt' x = x ∧ ∀ y, rt' y = x → y = x := by
  have h1 : rt a ≠ x := fun e => ha (hx.2 a e)
  have h2 : rt b ≠ x := fun e => hb (hx.2 b e)
  have key : ∀ u v, u ≠ x → v ≠ x → jrt rt u v x = x ∧ ∀ y, jrt rt u v y = x → y = x := fun u v hu hv => by
    unfold jrt
    refine ⟨by rw [hx.1, if_neg (fun e => hv e.symm)], fun y hy => ?_⟩
    split at hy
    · exact absurd hy hu
    · exact hx.2 y hy
  rcases h with ⟨-, rfl⟩ | ⟨-, rfl | rfl⟩
  · exact hx
  · exact key _ _ h1 h2
  · exact key _ _ h2 h1

/-- All of the first i edges are joined. -/
def CnA (F : FP) (rt : Nat → Nat) (i : Nat) : Prop := ∀ k a b, k < i → (F.ends F.N)[k]? = some (a, b) → rt a = rt b
theorem CnA.join {F : FP} {rt rt' : Nat → Nat} {i a b : Nat} (h : CnA F rt i) (he : (F.ends F.N)[i]? = some (a, b)) (hj : Joined rt rt' a b) : CnA F rt' (i + 1) := fun k x y hk hxy => by
  by_cases e : k = i
  · subst e; rw [he] at hxy; cases hxy; exact hj.ab
  · exact hj.same (h k x y (by omega) hxy)
/-- All of the first i edges between cells that are no bays are joined; the bays are alone. -/
structure CnB (F : FP) (rt : Nat → Nat) (i : Nat) : Prop where
  j : ∀ k a b, k < i → (F.ends F.N)[k]? = some (a, b) → F.kd (F.pl a) ≠ 7 → F.kd (F.pl b) ≠ 7 → rt a = rt b
  l : ∀ x, F.kd (F.pl x) = 7 → rt x = x ∧ ∀ y, rt y = x → y = x
theorem CnB.join {F : FP} {rt rt' : Nat → Nat} {i a b : Nat} (h : CnB F rt i) (he : (F.ends F.N)[i]? = some (a, b)) (ha : F.kd (F.pl a) ≠ 7) (hb : F.kd (F.pl b) ≠ 7) (hj : Joined rt rt' a b) : CnB F rt' (i + 1) := by
  refine ⟨fun k x y hk hxy hx hy => ?_, fun x hx => hj.lone (h.l x hx) (fun e => ha (e ▸ hx)) (fun e => hb (e ▸ hx))⟩
  by_cases e : k = i
  · subst e; rw [he] at hxy; cases hxy; exact hj.ab
  · exact hj.same (h.j k x y (by omega) hxy hx hy)
theorem CnB.skip {F : FP} {rt : Nat → Nat} {i a b : Nat} (h : CnB F rt i) (he : (F.ends F.N)[i]? = some (a, b)) (hab : F.kd (F.pl a) = 7 ∨ F.kd (F.pl b) = 7) : CnB F rt (i + 1) := by
  refine ⟨fun k x y hk hxy hx hy => ?_, h.l⟩
  by_cases e : k = i
  · subst e; rw [he] at hxy; cases hxy
    rcases hab with h | h
    · exact absurd h hx
    · exact absurd h hy
  · exact h.j k x y (by omega) hxy hx hy

/-- Every neighbour stands in the list of edges. -/
theorem adj_edge {F : FP} (hp : Plain F) {c b : Nat} (hc : c < F.N) (h : b ∈ F.adj c) : ∃ k : Nat, (F.ends F.N)[k]? = some (c, b) ∨ (F.ends F.N)[k]? = some (b, c) := by
  have hb := adj_lt hp hc h
  have hne : c ≠ b := fun e => adj_ne hp hc (by rw [← e] at h; exact h)
  rcases Nat.lt_or_gt_of_ne hne with hl | hl
  · obtain ⟨k, hk⟩ := List.mem_iff_getElem?.1 ((mem_ends F (p := (c, b)) (c := F.N)).2 ⟨hc, h, hl⟩)
    exact ⟨k, Or.inl hk⟩
  · obtain ⟨k, hk⟩ := List.mem_iff_getElem?.1 ((mem_ends F (p := (b, c)) (c := F.N)).2 ⟨hb, adj_symm hp hc h, hl⟩)
    exact ⟨k, Or.inr hk⟩
theorem len_get {α : Type} {l : List α} {k : Nat} {x : α} (h : l[k]? = some x) : k < l.length := (List.getElem?_eq_some_iff.1 h).1

theorem CnA.one {F : FP} (hp : Pln F) {p rt r : Nat → Nat} {R : Nat} (hu : UF F.N p rt r R) (hN : 0 < F.N) (h : CnA F rt (F.ends F.N).length) : grp p F.N = 1 := by
  have hT : Closed F (fun c => rt c = rt 0) := fun c b hc hcT hb => by
    obtain ⟨k, hk | hk⟩ := adj_edge hp.pl hc hb
    · have := h k c b (len_get hk) hk
      show rt b = rt 0
      rw [← this]; exact hcT
    · have := h k b c (len_get hk) hk
      show rt b = rt 0
      rw [this]; exact hcT
  have hall := conn hp hT hN rfl
  have hs := hu.rl 0 hN
  unfold grp
  rw [cntB_congr (q := fun x => decide (x = rt 0)) F.N (fun i hi => ?_)]
  · exact cntB_one (s := rt 0) (by simp) (fun i hi => by simp [hi]) F.N hs
  · by_cases e : p i = i
    · have h1 := hu.rx i hi e
      have h2 := hall i hi
      have : i = rt 0 := by rw [← h2, h1]
      simp only [e, decide_true]
      exact (decide_eq_true this).symm
    · have : i ≠ rt 0 := fun h2 => e (by rw [h2]; exact hu.rr 0 hN)
      simp [e, this]
theorem cntB_filter (p : Nat → Bool) : ∀ n, ((List.range n).filter p).length = cntB p n
  | 0 => rfl
  | n + 1 => by
    rw [List.range_succ, List.filter_append, List.length_append, cntB_filter p n, cntB]
    congr 1
    cases h : p n <;> simp [h]
theorem cntB_not (p : Nat → Bool) : ∀ n, cntB p n + cntB (fun x => !p x) n = n
  | 0 => rfl
  | n + 1 => by
    have := cntB_not p n
    rw [cntB, cntB]
    cases h : p n <;> simp <;> omega
theorem bays_cnt {F : FP} (hp : Pln F) : cntB (fun x => decide (F.kd (F.pl x) = 7)) F.N = F.n := by
  have h := rest_len hp (acc := (List.range F.N).filter (fun x => !decide (F.kd (F.pl x) = 7))) (List.nodup_range.filter _) (fun x hx => by have := (List.mem_filter.1 hx).1; simpa using this) (fun x hx => by have := (List.mem_filter.1 hx).2; simpa using this)
    (fun c hc h7 => List.mem_filter.2 ⟨by simpa using hc, by simpa using h7⟩)
  rw [cntB_filter] at h
  have := cntB_not (fun x => decide (F.kd (F.pl x) = 7)) F.N
  omega
theorem CnB.cnt {F : FP} (hp : Pln F) {p rt r : Nat → Nat} {R s : Nat} (hu : UF F.N p rt r R) (hs : s < F.N) (hs7 : F.kd (F.pl s) ≠ 7) (h : CnB F rt (F.ends F.N).length) : grp p F.N = 1 + F.n := by
  have hT : ClosedN F (fun c => rt c = rt s) := fun c b hc hcT hb h7 => by
    have hc7 : F.kd (F.pl c) ≠ 7 := fun e => by
      have h1 := h.l c e
      have h2 : rt s = c := by rw [← hcT]; exact h1.1
      exact hs7 (by rw [h1.2 s h2]; exact e)
    obtain ⟨k, hk | hk⟩ := adj_edge hp.pl hc hb
    · have := h.j k c b (len_get hk) hk hc7 h7
      show rt b = rt s
      rw [← this]; exact hcT
    · have := h.j k b c (len_get hk) hk h7 hc7
      show rt b = rt s
      rw [this]; exact hcT
  have hall := connN hp hT hs hs7 rfl
  have hsl := hu.rl s hs
  have hr7 : F.kd (F.pl (rt s)) ≠ 7 := fun e => hs7 (by rw [(h.l (rt s) e).2 s rfl]; exact e)
  unfold grp
  rw [cntB_congr (q := fun x => decide (F.kd (F.pl x) = 7) || decide (x = rt s)) F.N (fun i hi => ?_)]
  · have := cntB_less (p := fun x => decide (F.kd (F.pl x) = 7) || decide (x = rt s)) (q := fun x => decide (F.kd (F.pl x) = 7)) (s := rt s) (by simp) (by simpa using hr7) (fun i hi => by simp [hi]) F.N hsl
    rw [bays_cnt hp] at this
    omega
  · by_cases e7 : F.kd (F.pl i) = 7
    · have h1 := (h.l i e7).1
      have h2 := hu.rr i hi
      rw [h1] at h2
      simp [e7, h2]
    · by_cases e : p i = i
      · have h1 := hu.rx i hi e
        have h2 := hall i hi e7
        have : i = rt s := by rw [← h2, h1]
        simp only [e, decide_true, e7, decide_false, Bool.false_or]
        exact (decide_eq_true this).symm
      · have : i ≠ rt s := fun h2 => e (by rw [h2]; exact hu.rr s hs)
        simp [e, e7, this]
end Go.Proofs.Qxb6500715aFmt
