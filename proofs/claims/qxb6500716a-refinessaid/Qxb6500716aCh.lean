/-
  Plain: the plan that trace reads off the nodes.
-/
import Derived.Test.Qxb6500716aQe
namespace Go.Proofs.Qxb6500716a
open Go.RowKit Go.Maps
set_option linter.unusedSimpArgs false
set_option linter.unusedVariables false
set_option maxRecDepth 20000
set_option maxHeartbeats 4000000
/-- The cell at an offset, read off the chain that ends in node id. -/
def chP (nd : List Nd) : Nat → Int → Nat → Int
  | 0, _, _ => 0
  | k + 1, id, j => if 0 ≤ (nd.getD id.toNat Nd.nil).p ∧ j ≤ (nd.getD (nd.getD id.toNat Nd.nil).p.toNat Nd.nil).o then chP nd k (nd.getD id.toNat Nd.nil).p j else ((nd.getD id.toNat Nd.nil).c : Int)
/-- The done ticks. -/
def chD (nd : List Nd) (t : Int) : Nat → Int → Nat → Int
  | 0, _, _ => 0
  | k + 1, id, j => if 0 ≤ (nd.getD id.toNat Nd.nil).p then (if j < (nd.getD (nd.getD id.toNat Nd.nil).p.toNat Nd.nil).l then chD nd t k (nd.getD id.toNat Nd.nil).p j else t + (nd.getD id.toNat Nd.nil).o) else 0
/-- Parents go down, offsets and labels rise, labels by at most one. -/
structure TrU (nd : List Nd) : Prop where
  ok : ∀ (i : Nat) (y : Nd), nd[i]? = some y → -1 ≤ y.p ∧ y.p < (i : Int) ∧ (y.p < 0 → y.l = 0) ∧ (0 ≤ y.p → ∃ x, nd[y.p.toNat]? = some x ∧ x.o ≤ y.o ∧ x.l ≤ y.l ∧ y.l ≤ x.l + 1)
theorem NOk.tu {F : FS} {T : TS} {q : Rq} {bay hz : Int} {nd : List Nd} (h : NOk F T q bay hz nd) : TrU nd := ⟨by
  intro i y hy
  obtain ⟨h1, h2⟩ := h i y hy
  rcases h1 with rfl | ⟨j, x, h3, h4, h5, h6⟩
  · exact ⟨by simp, by simp only; omega, fun _ => rfl, fun h => by simp at h⟩
  · refine ⟨by omega, by omega, fun h => by omega, fun _ => ⟨x, by rw [h3, Int.toNat_natCast]; exact h5, ?_⟩⟩
    rcases h6 with ⟨g, a1, a2, a3, a4, a5, a6⟩ | ⟨⟨a1, a2⟩, a3, a4⟩ <;> omega⟩
theorem getD_is {α : Type} {l : List α} {i : Nat} {x : α} (d : α) (h : l[i]? = some x) : l.getD i d = x := by
  rw [List.getD_eq_getElem?_getD, h]; rfl
theorem trcGo_ch {nd : List Nd} (hU : TrU nd) (t : Int) : ∀ (k : Nat) (id : Nat) (y : Nd) (p d : Nat → Int), nd[id]? = some y → id + 1 ≤ k → ∀ j, (trcGo nd t k id p d).1 j = (if j ≤ y.o then chP nd k id j else p j) ∧ (trcGo nd t k id p d).2 j = (if j < y.l then chD nd t k id j else d j)
  | 0, id, y, p, d, hy, hk, j => by omega
  | k + 1, id, y, p, d, hy, hk, j => by
    obtain ⟨u1, u2, u3, u4⟩ := hU.ok id y hy
    have hg : nd.getD (id : Int).toNat Nd.nil = y := getD_is _ (by rw [Int.toNat_natCast]; exact hy)
    rw [trcGo, if_neg (by omega), hg]
    by_cases hp : 0 ≤ y.p
    · obtain ⟨x, v1, v2, v3, v4⟩ := u4 hp
      have hgx : nd.getD y.p.toNat Nd.nil = x := getD_is _ v1
      have hpe : y.p = ((y.p.toNat : Nat) : Int) := (Int.toNat_of_nonneg hp).symm
      obtain ⟨w1, w2⟩ := trcGo_ch hU t k y.p.toNat x (filP p (x.o + 1) (y.o + 1) y.c) (if 0 ≤ y.p ∧ x.l < y.l then upd d x.l (t + y.o) else d) v1 (by omega) j
      rw [← hpe] at w1 w2
      rw [hgx, if_pos hp, w1, w2]
      constructor
      · unfold filP
        rw [chP, hg, hgx]
        by_cases e1 : j ≤ x.o
        · rw [if_pos e1, if_pos (by omega), if_pos ⟨hp, e1⟩]
        · rw [if_neg e1]
          by_cases e2 : j ≤ y.o
          · rw [if_pos ⟨by omega, by omega⟩, if_pos e2, if_neg (fun z => e1 z.2)]
          · rw [if_neg (by omega), if_neg e2]
      · rw [chD, hg, hgx, if_pos hp]
        by_cases e1 : j < x.l
        · rw [if_pos e1, if_pos (by omega), if_pos e1]
        · rw [if_neg e1]
          by_cases e2 : x.l < y.l
          · rw [if_pos ⟨hp, e2⟩]
            by_cases e3 : j < y.l
            · obtain rfl : j = x.l := by omega
              rw [if_pos e3, if_neg e1, upd_at]
            · rw [if_neg e3, upd_ne _ _ (by omega)]
          · rw [if_neg (fun z => e2 z.2), if_neg (by omega)]
    · have hpn : y.p = -1 := by omega
      have hz : ∀ (k : Nat) (p d : Nat → Int), trcGo nd t k (-1) p d = (p, d) := fun k p d => by
        cases k with
        | zero => rfl
        | succ k => rw [trcGo, if_pos (by omega)]
      rw [if_neg hp, if_neg (fun z => hp z.1), hpn, hz]
      constructor
      · have hch : chP nd (k + 1) id j = y.c := by rw [chP, hg, if_neg (fun z => hp z.1)]
        rw [hch]
        show (if 0 ≤ j ∧ j < y.o + 1 then (y.c : Int) else p j) = _
        by_cases e2 : j ≤ y.o
        · rw [if_pos ⟨Nat.zero_le _, by omega⟩, if_pos e2]
        · rw [if_neg (by omega), if_neg e2]
      · rw [u3 (by omega), if_neg (by omega)]
/-- What a plan's path and done ticks meet, seen from a node. -/
structure ChOk (F : FS) (T : TS) (q : Rq) (y : Nd) (P D : Nat → Int) : Prop where
  s : P 0 = q.s
  e : P y.o = y.c
  st : ∀ j, j < y.o → (P (j + 1) = P j ∨ P (j + 1) ∈ F.near (P j).toNat) ∧ T.freeM q.r (P j) (P (j + 1)) (q.t + j) = true
  dn : ∀ j g, j < y.l → q.gl[j]? = some g → (if j = 0 then q.t else D (j - 1)) ≤ D j - g.2.toNat ∧ D j ≤ q.t + y.o ∧ ∀ b, D j - g.2.toNat ≤ b → b ≤ D j → P (b - q.t).toNat = g.1
  do1 : ∀ j, j < y.l → q.t ≤ D j ∧ D j ≤ q.t + y.o
theorem stays_at {T : TS} {r c t : Int} : ∀ (k i : Nat), T.stays r c t i k = true → ∀ m, i ≤ m → m < i + k → T.freeM r c c (t + m) = true
  | 0, i, _, m, h1, h2 => by omega
  | k + 1, i, h, m, h1, h2 => by
    rw [TS.stays, Bool.and_eq_true] at h
    by_cases e : m = i
    · rw [e]; exact h.1
    · exact stays_at k (i + 1) h.2 m (by omega) (by omega)
theorem ChOk.congr {F : FS} {T : TS} {q : Rq} {y : Nd} {P D P' D' : Nat → Int} (h : ChOk F T q y P D) (hP : ∀ j, j ≤ y.o → P' j = P j) (hD : ∀ j, j < y.l → D' j = D j) : ChOk F T q y P' D' := by
  refine ⟨by rw [hP 0 (Nat.zero_le _)]; exact h.s, by rw [hP _ (Nat.le_refl _)]; exact h.e, fun j hj => ?_, fun j g hj hg => ?_, fun j hj => by rw [hD j hj]; exact h.do1 j hj⟩
  · rw [hP j (by omega), hP (j + 1) (by omega)]; exact h.st j hj
  · obtain ⟨h1, h2, h3⟩ := h.dn j g hj hg
    have h0 : (if j = 0 then q.t else D' (j - 1)) = (if j = 0 then q.t else D (j - 1)) := by
      by_cases e : j = 0
      · rw [if_pos e, if_pos e]
      · rw [if_neg e, if_neg e, hD (j - 1) (by omega)]
    rw [h0, hD j hj]
    refine ⟨h1, h2, fun b hb1 hb2 => ?_⟩
    rw [hP _ (by omega)]
    exact h3 b hb1 hb2
theorem ChOk.next {F : FS} {T : TS} {q : Rq} {x y : Nd} {P D : Nat → Int} (h : ChOk F T q x P D) (hn : Nxt F T q x y.c y.o y.l) : ChOk F T q y (fun j => if j ≤ x.o then P j else (y.c : Int)) (fun j => if j < x.l then D j else q.t + y.o) := by
  have hlow : ∀ j, j < x.l → 0 ≤ (if j = 0 then q.t else D (j - 1)) - q.t := fun j hj => by
    by_cases e : j = 0
    · rw [if_pos e]; omega
    · rw [if_neg e]; have := (h.do1 (j - 1) (by omega)).1; omega
  have hold : ∀ j g, j < x.l → q.gl[j]? = some g → x.o ≤ y.o → (if j = 0 then q.t else (if j - 1 < x.l then D (j - 1) else q.t + y.o)) ≤ (if j < x.l then D j else q.t + y.o) - g.2.toNat ∧ (if j < x.l then D j else q.t + y.o) ≤ q.t + y.o ∧ ∀ b, (if j < x.l then D j else q.t + y.o) - g.2.toNat ≤ b → b ≤ (if j < x.l then D j else q.t + y.o) → (if (b - q.t).toNat ≤ x.o then P (b - q.t).toNat else (y.c : Int)) = g.1 := fun j g hj hg ho => by
    obtain ⟨h1, h2, h3⟩ := h.dn j g hj hg
    rw [if_pos hj]
    have h0 : (if j = 0 then q.t else (if j - 1 < x.l then D (j - 1) else q.t + y.o)) = (if j = 0 then q.t else D (j - 1)) := by
      by_cases e : j = 0
      · rw [if_pos e, if_pos e]
      · rw [if_neg e, if_neg e, if_pos (by omega)]
    rw [h0]
    refine ⟨h1, by omega, fun b hb1 hb2 => ?_⟩
    rw [if_pos (by omega)]
    exact h3 b hb1 hb2
  rcases hn with ⟨g, a1, a2, a3, a4, a5, a6⟩ | ⟨⟨a1, a2⟩, a3, a4⟩
  · have hst := stays_at g.2.toNat 0 a3
    refine ⟨?_, ?_, fun j hj => ?_, fun j g' hj hg => ?_, fun j hj => ?_⟩
    · try dsimp only
      rw [if_pos (Nat.zero_le _)]; exact h.s
    · try dsimp only
      by_cases e : y.o ≤ x.o
      · rw [if_pos e, show y.o = x.o by omega, h.e, a4]
      · rw [if_neg e]
    · try dsimp only
      by_cases e1 : j + 1 ≤ x.o
      · rw [if_pos e1, if_pos (by omega)]; exact h.st j (by omega)
      · rw [if_neg e1]
        by_cases e2 : j ≤ x.o
        · obtain rfl : j = x.o := by omega
          rw [if_pos e2, h.e, a4]
          refine ⟨Or.inl rfl, ?_⟩
          have := hst 0 (Nat.le_refl _) (by omega)
          simpa using this
        · rw [if_neg e2, a4]
          refine ⟨Or.inl rfl, ?_⟩
          have := hst (j - x.o) (Nat.zero_le _) (by omega)
          rw [show q.t + (x.o : Int) + ((j - x.o : Nat) : Int) = q.t + j by omega] at this
          exact this
    · try dsimp only
      by_cases e : j < x.l
      · exact hold j g' e hg (by omega)
      · obtain rfl : j = x.l := by omega
        rw [a1] at hg
        simp only [Option.some.injEq] at hg
        subst hg
        rw [if_neg e]
        refine ⟨?_, Int.le_refl _, fun b hb1 hb2 => ?_⟩
        · by_cases e0 : x.l = 0
          · rw [if_pos e0]; omega
          · rw [if_neg e0, if_pos (by omega)]
            have := (h.do1 (x.l - 1) (by omega)).2
            omega
        · by_cases e3 : (b - q.t).toNat ≤ x.o
          · rw [if_pos e3, show (b - q.t).toNat = x.o by omega, h.e, a2]
          · rw [if_neg e3, a4, a2]
    · try dsimp only
      by_cases e : j < x.l
      · rw [if_pos e]; have := h.do1 j e; omega
      · rw [if_neg e]; omega
  · refine ⟨?_, ?_, fun j hj => ?_, fun j g' hj hg => ?_, fun j hj => ?_⟩
    · try dsimp only
      rw [if_pos (Nat.zero_le _)]; exact h.s
    · try dsimp only
      rw [if_neg (by omega)]
    · try dsimp only
      by_cases e1 : j + 1 ≤ x.o
      · rw [if_pos e1, if_pos (by omega)]; exact h.st j (by omega)
      · obtain rfl : j = x.o := by omega
        rw [if_neg e1, if_pos (Nat.le_refl _), h.e]
        refine ⟨?_, a2⟩
        rcases a1 with a1 | a1
        · exact Or.inl (by rw [a1])
        · exact Or.inr (by rw [Int.toNat_natCast]; exact a1)
    · try dsimp only
      exact hold j g' (by omega) hg (by omega)
    · try dsimp only
      rw [if_pos (by omega)]
      have := h.do1 j (by omega)
      omega
theorem ch_fuel {nd : List Nd} (hU : TrU nd) (t : Int) : ∀ (k id : Nat) (y : Nd), nd[id]? = some y → id + 1 ≤ k → ∀ j, chP nd k id j = chP nd (id + 1) id j ∧ chD nd t k id j = chD nd t (id + 1) id j
  | 0, id, y, hy, hk, j => by omega
  | k + 1, id, y, hy, hk, j => by
    obtain ⟨u1, u2, u3, u4⟩ := hU.ok id y hy
    have hg : nd.getD (id : Int).toNat Nd.nil = y := getD_is _ (by rw [Int.toNat_natCast]; exact hy)
    rw [chP, chP, chD, chD, hg]
    by_cases hp : 0 ≤ y.p
    · obtain ⟨x, v1, v2, v3, v4⟩ := u4 hp
      have hpe : ((y.p.toNat : Nat) : Int) = y.p := Int.toNat_of_nonneg hp
      obtain ⟨w1, w2⟩ := ch_fuel hU t k y.p.toNat x v1 (by omega) j
      obtain ⟨z1, z2⟩ := ch_fuel hU t id y.p.toNat x v1 (by omega) j
      rw [hpe] at w1 w2 z1 z2
      rw [w1, w2, z1, z2]
      exact ⟨rfl, rfl⟩
    · rw [if_neg (fun z => hp z.1), if_neg (fun z => hp z.1), if_neg hp, if_neg hp]
      exact ⟨rfl, rfl⟩
theorem chain_ok {F : FS} {T : TS} {q : Rq} {bay hz : Int} {nd : List Nd} (h : NOk F T q bay hz nd) (hs : 0 ≤ q.s) : ∀ (k id : Nat) (y : Nd), nd[id]? = some y → id < k → ChOk F T q y (chP nd (id + 1) id) (chD nd q.t (id + 1) id)
  | 0, id, y, _, hk => by omega
  | k + 1, id, y, hy, hk => by
    have hg : nd.getD (id : Int).toNat Nd.nil = y := getD_is _ (by rw [Int.toNat_natCast]; exact hy)
    obtain ⟨h1, -⟩ := h id y hy
    rcases h1 with rfl | ⟨m, x, h3, h4, h5, h6⟩
    · refine ⟨?_, ?_, fun j hj => by simp at hj, fun j g hj => by simp at hj, fun j hj => by simp at hj⟩
      · rw [chP, hg, if_neg (by simp)]; exact Int.toNat_of_nonneg hs
      · rw [chP, hg, if_neg (by simp)]
    · have ih := (chain_ok h hs k m x h5 (by omega)).next h6
      have hgx : nd.getD y.p.toNat Nd.nil = x := getD_is _ (by rw [h3, Int.toNat_natCast]; exact h5)
      refine ih.congr (fun j hj => ?_) (fun j hj => ?_)
      · rw [chP, hg, hgx, h3]
        by_cases e : j ≤ x.o
        · rw [if_pos ⟨by omega, e⟩, if_pos e]
          exact (ch_fuel h.tu q.t id m x h5 (by omega) j).1
        · rw [if_neg (fun z => e z.2), if_neg e]
      · rw [chD, hg, hgx, h3, if_pos (by omega)]
        by_cases e : j < x.l
        · rw [if_pos e, if_pos e]
          exact (ch_fuel h.tu q.t id m x h5 (by omega) j).2
        · rw [if_neg e, if_neg e]
end Go.Proofs.Qxb6500716a
