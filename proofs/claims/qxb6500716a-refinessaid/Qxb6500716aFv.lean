/-
  Plain: a plan that was found is valid for the model, ahead of its entry and behind it.
-/
import Derived.Test.Qxb6500716aVv
import Derived.Test.Qxb6500716aEn
import Derived.Test.Qxb6500716aEp
import Derived.Test.Qxb6500716aBb
namespace Go.Proofs.Qxb6500716a
open Go.RowKit Go.Maps
set_option linter.unusedSimpArgs false
set_option linter.unusedVariables false
set_option maxRecDepth 20000
set_option maxHeartbeats 4000000
theorem jmp_of {F : FS} : ∀ (l : List Int) (a : Int), (∀ (j : Nat) (x y : Int), (a :: l)[j]? = some x → (a :: l)[j + 1]? = some y → y = x ∨ F.adj x y = true) → jmp F a l = true
  | [], a, _ => rfl
  | b :: l, a, h => by
    rw [jmp]
    have h0 := h 0 a b rfl rfl
    rw [if_neg (fun e => by
      rcases h0 with h0 | h0
      · exact e.1 h0.symm
      · rw [h0] at e
        cases e.2)]
    exact jmp_of l b (fun j x y hx hy => h (j + 1) x y hx hy)
theorem onP_of {path : List Int} {t0 c : Int} : ∀ (k : Nat) (t : Int), (∀ b, t ≤ b → b < t + k → path.getD (b - t0).toNat 0 = c) → onP path t0 c t k = true
  | 0, t, _ => rfl
  | k + 1, t, h => by
    rw [onP, if_pos (h t (by omega) (by omega))]
    exact onP_of k (t + 1) (fun b h1 h2 => h b (by omega) (by omega))
theorem dwl_of {path : List Int} {t0 arr : Int} {gl : List (Int × Int)} {D : Nat → Int} (h : ∀ j g, gl[j]? = some g → 0 ≤ g.2 ∧ (if j = 0 then t0 else D (j - 1)) ≤ D j - g.2 ∧ D j ≤ arr ∧ ∀ b, D j - g.2 ≤ b → b ≤ D j → path.getD (b - t0).toNat 0 = g.1) : ∀ (m k : Nat), k + m = gl.length → dwl path t0 arr (if k = 0 then t0 else D (k - 1)) (gl.drop k) ((lst gl.length D).drop k) = true
  | 0, k, hk => by
    rw [List.drop_eq_nil_of_le (by omega)]
    unfold dwl
    rfl
  | m + 1, k, hk => by
    have hkg : k < gl.length := by omega
    have hkd : k < (lst gl.length D).length := by rw [lst_len]; exact hkg
    have hgx : gl[k]? = some gl[k] := List.getElem?_eq_getElem hkg
    obtain ⟨h1, h2, h3, h4⟩ := h k _ hgx
    have hdx : (lst gl.length D)[k] = D k := by
      have := lst_at gl.length D k hkg
      rw [List.getElem?_eq_getElem hkd] at this
      exact Option.some.inj this
    rw [List.drop_eq_getElem_cons hkg, List.drop_eq_getElem_cons hkd, hdx, dwl, if_neg (by omega), if_pos (onP_of _ _ (fun b b1 b2 => h4 b b1 (by omega)))]
    have := dwl_of h m (k + 1) (by omega)
    rw [if_neg (by omega), show k + 1 - 1 = k from rfl] at this
    exact this
section
variable {F : FS} {T : TS} {q : Rq} {p : Pl}
/-- The other robots bar nothing. -/
theorem Found.clear (hF : FOk F) (hT : TInv T) (hnr : T.nr = F.bays.length) (h : Found F T q p) (k : Nat) (hk : k < F.bays.length) (hkr : (k : Int) ≠ q.r) (i : Nat) (hi : i < p.path.length) : vr1 T q.r q.t p.path k i = false := by
  obtain ⟨v1, v2, v3, v4, v5, v6, v7⟩ := h.valid hF hT hnr
  have hget : ∀ j, j < p.path.length → p.path[j]? = some (p.path.getD j 0) := fun j hj => by rw [List.getD_eq_getElem?_getD, List.getElem?_eq_getElem hj]; rfl
  have a1 := v5 k i _ hk hkr (hget i hi)
  have a2 : ¬ (whr T q.r q.t p.path i ≠ -1 ∧ whr T q.r q.t p.path i ≠ p.path.getD i 0 ∧ T.at k (q.t + i - 1) = p.path.getD i 0 ∧ T.at k (q.t + i) = whr T q.r q.t p.path i) := by
    unfold whr
    cases i with
    | zero =>
      rw [if_pos rfl, show q.t + ((0 : Nat) : Int) = q.t by omega]
      rintro ⟨b1, b2, b3, b4⟩
      have hsf := h.sf
      unfold TS.sfree at hsf
      rw [if_pos b1] at hsf
      have hs : p.path.getD 0 0 = q.s := by
        have := hget 0 hi
        rw [v1] at this
        exact (Option.some.inj this).symm
      rw [hs] at b2 b3
      have := (freeM_at hT hsf k (by omega) hkr).2
      rw [show q.t - 1 + 1 = q.t by omega] at this
      exact this ⟨b2, b3, b4⟩
    | succ i =>
      rw [if_neg (by omega), show i + 1 - 1 = i from rfl, show q.t + ((i + 1 : Nat) : Int) - 1 = q.t + i by omega]
      rintro ⟨b1, b2, b3, b4⟩
      exact v6 k i _ _ hk hkr (hget i (by omega)) (hget (i + 1) hi) b2 b3 b4
  unfold vr1
  simp only [Bool.or_eq_false_iff, decide_eq_false_iff_not]
  refine ⟨a1, ?_⟩
  rw [← Bool.not_eq_true]
  simp only [Bool.and_eq_true, decide_eq_true_eq]
  exact a2
/-- Valid on a table where the others stand alike. -/
theorem Found.valOn (hF : FOk F) (hT : TInv T) (hnr : T.nr = F.bays.length) (h : Found F T q p) {T' : TS} (hb : T'.base = T.base) (ho : ∀ (k : Nat) (b : Int), k < F.bays.length → (k : Int) ≠ q.r → T'.at k b = T.at k b) (hp : T'.at q.r (q.t - 1) = T.at q.r (q.t - 1)) (hf : T'.freeF q.r (F.park q.r).1 (q.t + p.path.length - 1) = true) : val F T' q 0 q.t p.path p.done = true := by
  obtain ⟨v1, v2, v3, v4, v5, v6, v7⟩ := h.valid hF hT hnr
  have hrk := rok_of hF h.rc
  have hclr := h.clear hF hT hnr
  have hlen := h.len
  have hget : ∀ j, j < p.path.length → p.path[j]? = some (p.path.getD j 0) := fun j hj => by rw [List.getD_eq_getElem?_getD, List.getElem?_eq_getElem hj]; rfl
  have hlast : p.path.getD (p.path.length - 1) 0 = (F.park q.r).1 := by
    have := hget (p.path.length - 1) (by omega)
    rw [v2] at this
    exact (Option.some.inj this).symm
  have hfst : p.path.getD 0 0 = q.s := by
    have := hget 0 (by omega)
    rw [v1] at this
    exact (Option.some.inj this).symm
  obtain ⟨y, P, D, y1, y2, y3, y4, y5, y6, y7⟩ := h.ex
  have hyo : p.path.length = y.o + 1 := by rw [y1, lst_len]
  have hdl : p.done.length = q.gl.length := by rw [y2, lst_len]
  have hpg : ∀ j, j < y.o + 1 → p.path.getD j 0 = P j := fun j hj => by
    rw [y1, List.getD_eq_getElem?_getD, lst_at _ _ _ hj]
    rfl
  have hwin : q.t + (y.o : Int) < (T.base : Int) + 256 := by unfold Rq.hz at y7; omega
  unfold val
  rw [if_neg (by rintro (h1 | h1 | h1 | h1 | h1); exact h1 rfl; omega; exact h1 hdl; exact h1 rfl; exact h1 hfst)]
  have hj : jmp F (p.path.getD 0 0) (p.path.drop 1) = true := by
    have hpc : p.path.getD 0 0 :: p.path.drop 1 = p.path := by
      cases hpp : p.path with
      | nil => rw [hpp] at hlen; simp at hlen
      | cons a l => rfl
    refine jmp_of _ _ ?_
    rw [hpc]
    exact v4
  rw [if_neg (by rw [hj]; simp)]
  have hd : dwl p.path q.t (q.t + p.path.length - 1) q.t q.gl p.done = true := by
    rw [y2]
    have := dwl_of (path := p.path) (t0 := q.t) (arr := q.t + p.path.length - 1) (gl := q.gl) (D := D) (fun j g hg => by
      have hjl : j < q.gl.length := (List.getElem?_eq_some_iff.1 hg).1
      have hgb := hrk.gok.2 g (List.mem_iff_getElem?.2 ⟨j, hg⟩)
      obtain ⟨d1, d2, d3⟩ := y3.dn j g (by omega) hg
      have dd := y3.do1 j (by omega)
      refine ⟨hgb.2.1, by omega, by omega, fun b b1 b2 => ?_⟩
      have hbt : q.t ≤ b := by
        split at d1
        · omega
        · have := (y3.do1 (j - 1) (by omega)).1
          omega
      rw [hpg _ (by omega)]
      exact d3 b (by omega) b2) q.gl.length 0 (by omega)
    simpa using this
  rw [if_neg (by rw [hd]; simp), if_neg (by rintro (h1 | h1 | h1); exact h1 hlast; omega; rw [hb] at h1; omega)]
  have hk : vrK T' q.r q.t p.path 0 F.bays.length = true := by
    rw [vrK_iff]
    rintro j - hj2 hjr
    rw [vrI_iff]
    rintro i - hi
    have := hclr j (by omega) hjr i (by omega)
    unfold vr1 whr at this ⊢
    rw [ho j _ (by omega) hjr, ho j _ (by omega) hjr, hp]
    exact this
  rw [if_neg (by rw [hk]; simp), hlast]
  exact hf
theorem Found.isVal (hF : FOk F) (hT : TInv T) (hnr : T.nr = F.bays.length) (h : Found F T q p) : val F T q 0 q.t p.path p.done = true := by
  refine h.valOn hF hT hnr rfl (fun _ _ _ _ => rfl) rfl ?_
  obtain ⟨y, P, D, y1, y2, y3, y4, y5, y6, y7⟩ := h.ex
  have hyo : p.path.length = y.o + 1 := by rw [y1, lst_len]
  rw [show q.t + (p.path.length : Int) - 1 = q.t + y.o by omega]
  exact y6
end
theorem spLater_app {r c t : Int} (x : Sg) (hx : (x.r : Int) ≠ r) : ∀ l : List Sg, spLater (l ++ [x]) r c t = spLater l r c t
  | [] => by
    show spLater [x] r c t = spLater [] r c t
    simp [spLater, hx]
  | y :: l => by
    show spLater (y :: (l ++ [x])) r c t = spLater (y :: l) r c t
    rw [spLater, spLater, spLater_app x hx l]
theorem sit_freeFF {U : TS} {r c t c' u : Int} (hr : 0 ≤ r) : ∀ (n k : Nat), U.freeFF r c' u k n = true → (U.sit r c t).freeFF r c' u k n = true := fun n k h => by
  refine freeFF_of n k (fun j h1 h2 hj => ?_)
  have := freeFF_at n k h j h1 h2 hj
  unfold TS.later at this ⊢
  show (exT (U.lt1 j c' u) (NTf U.tm) || spLater (U.sp ++ [⟨r.toNat, c.toNat, t.toNat, 1099511627776⟩]) j c' u) = false
  rw [spLater_app _ (by simp only; omega)]
  exact this
theorem sit_freeF {U : TS} {r c t c' u : Int} (hr : 0 ≤ r) (h : U.freeF r c' u = true) : (U.sit r c t).freeF r c' u = true := by
  unfold TS.freeF at h ⊢
  simp only [Bool.and_eq_true] at h ⊢
  exact ⟨h.1, h.2.1, h.2.2.1, sit_freeFF hr _ _ h.2.2.2⟩
/-- Behind 'enter' the robot's place is free for it. -/
theorem enter_free {T : TS} {r t : Int} {path : List Int} (hr : 0 ≤ r) (h : (T.enter r t path).1 = 0) : (T.enter r t path).2.freeF r (path.getD (path.length - 1) 0) (t + path.length - 1) = true := by
  unfold TS.enter at h ⊢
  by_cases h1 : (T.cap : Int) - (T.held : Int) + T.remov r t < (path.length : Int)
  · rw [if_pos h1] at h; cases h
  rw [if_neg h1] at h ⊢
  by_cases h2 : ((T.trunc r t).path r t (path.take (path.length - 1))).1 ≠ 0
  · rw [if_pos h2] at h; cases h
  rw [if_neg h2] at h ⊢
  generalize ((T.trunc r t).path r t (path.take (path.length - 1))).2.2 = U at *
  by_cases h3 : (U.stand r (path.getD (path.length - 1) 0) (t + path.length - 1)).1 ≠ 0
  · rw [if_pos h3] at h; cases h
  rw [if_neg h3]
  simp only
  unfold TS.stand at h3 ⊢
  split at h3
  · exact absurd (by assumption) h3
  rename_i e1
  rw [if_neg e1]
  split at h3
  · exact absurd (by simp) h3
  rename_i e2
  rw [if_neg e2]
  split at h3
  · exact absurd (by simp) h3
  rename_i e3
  rw [if_neg e3]
  unfold TS.stand3 at h3 ⊢
  split at h3
  · exact absurd (by simp) h3
  rename_i e4
  rw [if_neg e4]
  split at h3
  · exact absurd (by simp) h3
  rename_i e5
  rw [if_neg e5]
  exact sit_freeF hr (by simpa using e3)
theorem Found.entVal {F : FS} {T : TS} {q : Rq} {p : Pl} (hF : FOk F) (hT : TInv T) (hnr : T.nr = F.bays.length) (h : Found F T q p) (he : (T.enter q.r q.t p.path).1 = 0) : val F (T.enter q.r q.t p.path).2 q 0 q.t p.path p.done = true := by
  have hrk := rok_of hF h.rc
  have hlen := h.len
  have hE := enter_at hrk.r.1 hrk.t.1 (fun c hc => (h.cell hF c hc).1) (by omega) he
  have hfx := enter_fx T q.r q.t p.path
  obtain ⟨v1, v2, -⟩ := h.valid hF hT hnr
  have hlast : p.path.getD (p.path.length - 1) 0 = (F.park q.r).1 := by
    rw [List.getD_eq_getElem?_getD, v2]
    rfl
  have hfr := enter_free hrk.r.1 he
  rw [hlast] at hfr
  exact h.valOn hF hT hnr (enter_base ..) (fun k b _ hk => hE.oth k b hk) (hE.old _ (by omega)) hfr
end Go.Proofs.Qxb6500716a
