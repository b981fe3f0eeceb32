/-
  Plain: the table behind 'enter'.
-/
import Derived.Test.Qxb6500716aQi
namespace Go.Proofs.Qxb6500716a
open Go.RowKit Go.Maps
set_option linter.unusedSimpArgs false
set_option linter.unusedVariables false
set_option maxRecDepth 20000
set_option maxHeartbeats 4000000
theorem spAt_cut_other (r k : Nat) (q t : Int) (hq : q ≠ (r : Int)) : ∀ l : List Sg, spAt (cutS r k l) q t = spAt l q t := by
  intro l
  induction l with
  | nil => rfl
  | cons x l ih =>
    unfold cutS
    by_cases hx : (x.r : Int) = q
    · have hxr : x.r ≠ r := fun e => hq (by rw [← hx, e])
      have hc : x.cut r k = x := by unfold Sg.cut; rw [if_neg hxr]
      rw [hc]
      split
      · rw [spAt, spAt, ih]
      · rename_i hf
        rw [spAt, ih]
        have : x.on q t = false := by
          unfold Sg.on
          simp
          omega
        rw [if_neg (by rw [this]; simp)]
    · have ho : ∀ y : Sg, y.r = x.r → y.on q t = false := fun y hy => by unfold Sg.on; rw [hy]; simp [hx]
      have hcr : (x.cut r k).r = x.r := by unfold Sg.cut; split <;> rfl
      split
      · rw [spAt, spAt, ho _ hcr, ho x rfl, ih]
        simp
      · rw [spAt, ho x rfl, ih]
        simp
theorem spAt_cut_before (r k : Nat) (t : Int) (ht : t < (k : Int)) : ∀ l : List Sg, spAt (cutS r k l) r t = spAt l r t := by
  intro l
  induction l with
  | nil => rfl
  | cons x l ih =>
    unfold cutS
    have hon : (x.cut r k).on r t = x.on r t := by
      unfold Sg.cut Sg.on
      split
      · rename_i e
        simp only
        congr 2
        simp
        omega
      · rfl
    have hcc : (x.cut r k).c = x.c := by unfold Sg.cut; split <;> rfl
    split
    · rw [spAt, spAt, hon, hcc, ih]
    · rename_i hf
      have : x.on r t = false := by
        rw [← hon]
        unfold Sg.on
        simp
        omega
      rw [spAt, this, ih]
      simp
theorem cut_off (r k : Nat) (t : Int) (ht : (k : Int) ≤ t) : ∀ (l : List Sg) (y : Sg), y ∈ cutS r k l → y.on r t = false := by
  intro l
  induction l with
  | nil => intro y hy; simp [cutS] at hy
  | cons x l ih =>
    intro y hy
    unfold cutS at hy
    have hx : (x.cut r k).on r t = false := by
      unfold Sg.cut Sg.on
      split
      · simp; omega
      · rename_i e
        simp
        intro h
        exact absurd (by omega) e
    split at hy
    · rcases List.mem_cons.1 hy with rfl | hy
      · exact hx
      · exact ih y hy
    · exact ih y hy
theorem spAt_off {l : List Sg} {r t : Int} (h : ∀ y, y ∈ l → y.on r t = false) : spAt l r t = -1 := by
  induction l with
  | nil => rfl
  | cons x l ih => rw [spAt, h x (by simp), if_neg (by simp)]; exact ih (fun y hy => h y (by simp [hy]))
theorem spAt_app_off {l : List Sg} {x : Sg} {r t : Int} (h : ∀ y, y ∈ l → y.on r t = false) : spAt (l ++ [x]) r t = if x.on r t = true then (x.c : Int) else -1 := by
  induction l with
  | nil => rfl
  | cons y l ih => rw [List.cons_append, spAt, h y (by simp), if_neg (by simp)]; exact ih (fun z hz => h z (by simp [hz]))
theorem spAt_app_no {l : List Sg} {x : Sg} {r t : Int} (h : x.on r t = false) : spAt (l ++ [x]) r t = spAt l r t := by
  induction l with
  | nil => simp [spAt, h]
  | cons y l ih => rw [List.cons_append, spAt, spAt, ih]
/-- What a path leaves: its own entries, and nothing else. -/
theorem pathGo_tm (T0 : TS) (r s : Int) : ∀ (l : List Int) (i : Nat) (T : TS), (T0.pathGo r s i l T).1 = 0 → ((T0.pathGo r s i l T).2.2.sp = T.sp ∧ (T0.pathGo r s i l T).2.2.base = T.base ∧ ∀ a b, (T0.pathGo r s i l T).2.2.tm a b = if a = r ∧ s + i ≤ b ∧ b < s + i + l.length then some (l.getD (b - (s + i)).toNat 0) else T.tm a b)
  | [], i, T, _ => ⟨rfl, rfl, fun a b => by rw [TS.pathGo, if_neg (fun x => by have := x.2; simp at this; omega)]⟩
  | c :: l, i, T, h => by
    rw [TS.pathGo] at h ⊢
    by_cases hc : (T.reserve r c (s + i)).1 ≠ 0
    · rw [if_pos hc] at h; exact absurd h hc
    · rw [if_neg hc] at h ⊢
      obtain ⟨-, -, -, h4, -⟩ := res_ok (by omega : (T.reserve r c (s + i)).1 = 0)
      obtain ⟨g1, g2, g3⟩ := pathGo_tm T0 r s l (i + 1) _ h
      rw [h4] at g1 g2 g3 ⊢
      refine ⟨g1, g2, fun a b => ?_⟩
      rw [g3 a b]
      simp only [List.length_cons]
      by_cases e1 : a = r ∧ s + ((i + 1 : Nat) : Int) ≤ b ∧ b < s + ((i + 1 : Nat) : Int) + l.length
      · rw [if_pos e1, if_pos ⟨e1.1, by omega, by omega⟩]
        have : (b - (s + (i : Int))).toNat = (b - (s + ((i + 1 : Nat) : Int))).toNat + 1 := by omega
        rw [this]
        rfl
      · rw [if_neg e1]
        unfold TS.put putM
        simp only
        by_cases e2 : a = r ∧ b = s + (i : Int)
        · rw [if_pos e2, if_pos ⟨e2.1, by omega, by omega⟩, e2.2]
          simp
        · rw [if_neg e2, if_neg (fun x => by
            by_cases e3 : b = s + (i : Int)
            · exact e2 ⟨x.1, e3⟩
            · exact e1 ⟨x.1, by omega, by omega⟩)]
/-- The table behind a plan that was entered. -/
structure Ent (T T' : TS) (r t : Int) (path : List Int) : Prop where
  own : ∀ b, t ≤ b → b < 1000000000000 → T'.at r b = path.getD (min (b - t).toNat (path.length - 1)) 0
  old : ∀ b, b < t → T'.at r b = T.at r b
  oth : ∀ q b, q ≠ r → T'.at q b = T.at q b
theorem enter_at {T : TS} {r t : Int} {path : List Int} (hr : 0 ≤ r) (ht : (T.base : Int) ≤ t) (hp : ∀ c, c ∈ path → 0 ≤ c) (hl : 1 ≤ path.length) (h : (T.enter r t path).1 = 0) : Ent T (T.enter r t path).2 r t path := by
  unfold TS.enter at h ⊢
  by_cases h1 : (T.cap : Int) - (T.held : Int) + T.remov r t < (path.length : Int)
  · rw [if_pos h1] at h; cases h
  rw [if_neg h1] at h ⊢
  by_cases h2 : ((T.trunc r t).path r t (path.take (path.length - 1))).1 ≠ 0
  · rw [if_pos h2] at h; cases h
  rw [if_neg h2] at h ⊢
  obtain ⟨P2, hP2⟩ : ∃ y, ((T.trunc r t).path r t (path.take (path.length - 1))).2.2 = y := ⟨_, rfl⟩
  obtain ⟨s1, s2, s3⟩ := pathGo_tm (T.trunc r t) r t (path.take (path.length - 1)) 0 (T.trunc r t) (by unfold TS.path at h2; omega)
  have hP2' : ((T.trunc r t).pathGo r t 0 (path.take (path.length - 1)) (T.trunc r t)).2.2 = P2 := hP2
  rw [hP2'] at s1 s2 s3
  rw [hP2] at h ⊢
  by_cases h3 : (P2.stand r (path.getD (path.length - 1) 0) (t + path.length - 1)).1 ≠ 0
  · rw [if_pos h3] at h; cases h
  rw [if_neg h3]
  simp only
  obtain ⟨k, hk⟩ : ∃ k, path.length = k + 1 := ⟨path.length - 1, by omega⟩
  have hmax : max t (T.base : Int) = t := by omega
  have hst : (P2.stand r (path.getD (path.length - 1) 0) (t + path.length - 1)).2 = P2.sit r (path.getD (path.length - 1) 0) (t + path.length - 1) := by
    unfold TS.stand at h3 ⊢
    by_cases g1 : P2.place r (path.getD (path.length - 1) 0) (t + path.length - 1) ≠ 0
    · rw [if_pos g1] at h3; exact absurd g1 h3
    rw [if_neg g1] at h3 ⊢
    by_cases g2 : P2.later r (-1) (t + path.length - 1) = true
    · rw [if_pos g2] at h3; simp at h3
    rw [if_neg g2] at h3 ⊢
    by_cases g3 : P2.freeF r (path.getD (path.length - 1) 0) (t + path.length - 1) = false
    · rw [if_pos g3] at h3; simp at h3
    rw [if_neg g3] at h3 ⊢
    unfold TS.stand3 at h3 ⊢
    by_cases g4 : (P2.sit r (path.getD (path.length - 1) 0) (t + path.length - 1)).crossed r (t + path.length - 1 - 1) = true
    · rw [if_pos g4] at h3; simp at h3
    rw [if_neg g4] at h3 ⊢
    by_cases g5 : P2.cap < P2.held + 1
    · rw [if_pos g5] at h3; simp at h3
    rw [if_neg g5]
  rw [hst]
  have htm : ∀ a b, (P2.sit r (path.getD (path.length - 1) 0) (t + path.length - 1)).tm a b = if a = r ∧ t ≤ b ∧ b < t + k then some (path.getD (b - t).toNat 0) else if a = r ∧ t ≤ b then none else T.tm a b := fun a b => by
    show P2.tm a b = _
    rw [s3 a b]
    have hll : (path.take (path.length - 1)).length = k := by simp; omega
    rw [hll]
    simp only [Int.natCast_zero, Int.add_zero]
    by_cases e : a = r ∧ t ≤ b ∧ b < t + k
    · rw [if_pos e, if_pos e]
      congr 1
      rw [List.getD_eq_getElem?_getD, List.getD_eq_getElem?_getD, List.getElem?_take, if_pos (by omega)]
    · rw [if_neg e, if_neg e]
      show cutM T.tm r (max t T.base) a b = _
      unfold cutM
      rw [hmax]
  have hsp : (P2.sit r (path.getD (path.length - 1) 0) (t + path.length - 1)).sp = cutS r.toNat t.toNat T.sp ++ [⟨r.toNat, (path.getD (path.length - 1) 0).toNat, (t + path.length - 1).toNat, 1099511627776⟩] := by
    show P2.sp ++ _ = _
    rw [s1]
    show cutS r.toNat (max t (T.base : Int)).toNat T.sp ++ _ = _
    rw [hmax]
  have hrr : ((r.toNat : Nat) : Int) = r := Int.toNat_of_nonneg hr
  have htt : ((t.toNat : Nat) : Int) = t := Int.toNat_of_nonneg (by omega)
  have hlast : 0 ≤ path.getD (path.length - 1) 0 := by
    have : path[path.length - 1]? = some (path.getD (path.length - 1) 0) := getD_of 0 (by omega)
    exact hp _ (List.mem_of_getElem? this)
  refine ⟨fun b hb hb2 => ?_, fun b hb => ?_, fun q b hq => ?_⟩
  · unfold TS.at
    rw [htm r b]
    by_cases e : b < t + k
    · rw [if_pos ⟨rfl, hb, e⟩]
      simp only
      congr 1
      omega
    · rw [if_neg (fun x => e x.2.2), if_pos ⟨rfl, hb⟩]
      simp only
      rw [hsp, spAt_app_off (fun y hy => by
        have := cut_off r.toNat t.toNat b (by omega) T.sp y hy
        rw [hrr] at this
        exact this)]
      rw [if_pos (by unfold Sg.on; simp; omega)]
      simp only
      rw [Int.toNat_of_nonneg hlast]
      congr 1
      omega
  · unfold TS.at
    rw [htm r b, if_neg (fun x => by omega), if_neg (fun x => by omega)]
    cases T.tm r b with
    | some c => rfl
    | none =>
      simp only
      rw [hsp, spAt_app_no (by unfold Sg.on; simp; omega)]
      have := spAt_cut_before r.toNat t.toNat b (by omega) T.sp
      rw [hrr] at this
      exact this
  · unfold TS.at
    rw [htm q b, if_neg (fun x => hq x.1), if_neg (fun x => hq x.1)]
    cases T.tm q b with
    | some c => rfl
    | none =>
      simp only
      rw [hsp, spAt_app_no (by unfold Sg.on; simp; omega)]
      exact spAt_cut_other r.toNat t.toNat q b (by omega) T.sp
end Go.Proofs.Qxb6500716a
