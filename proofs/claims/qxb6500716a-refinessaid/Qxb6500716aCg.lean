/-
  Plain: what a plan that was found meets.
-/
import Derived.Test.Qxb6500716aCh
namespace Go.Proofs.Qxb6500716a
open Go.RowKit Go.Maps
set_option linter.unusedSimpArgs false
set_option linter.unusedVariables false
set_option maxRecDepth 20000
set_option maxHeartbeats 4000000
theorem srch_good {F : FS} {T : TS} {q : Rq} {bay hz : Int} {st : Nat → Int} (hF : FOk F) : ∀ (k e B : Nat) (S : PS), SIn F T q bay hz st B S → (PS.srch F T q bay hz k e S).2.c = 0 → ∃ (nd : List Nd) (id : Nat) (y : Nd) (x : Int), NOk F T q bay hz nd ∧ nd[id]? = some y ∧ T.arrd q bay y = true ∧ (PS.srch F T q bay hz k e S).2 = Pl.trace nd q id x
  | 0, e, B, S, h, hc => by
    rw [PS.srch] at hc
    split at hc <;> simp [Pl.fail] at hc
  | k + 1, e, B, S, h, hc => by
    rw [PS.srch] at hc ⊢
    by_cases h1 : S.hp = []
    · rw [if_pos h1] at hc; simp [Pl.fail] at hc
    · rw [if_neg h1] at hc ⊢
      have htop := h.top h1
      by_cases h2 : T.arrd q bay (S.nd.getD (S.hp.getD (best S.hp) It.nil).v Nd.nil) = true
      · rw [if_pos h2]
        exact ⟨S.nd, _, _, _, h.n, htop, h2, rfl⟩
      · rw [if_neg h2] at hc ⊢
        exact srch_good hF k (e + 1) (B + 400) _ (h.pop.expand hF _ _ htop) hc
/-- A plan that was found. -/
structure Found (F : FS) (T : TS) (q : Rq) (p : Pl) : Prop where
  rc : rcode F T q = 0
  sf : T.sfree q = true
  ex : ∃ (y : Nd) (P D : Nat → Int), p.path = lst (y.o + 1) P ∧ p.done = lst q.gl.length D ∧ ChOk F T q y P D ∧ y.l = q.gl.length ∧ (y.c : Int) = (F.park q.r).1 ∧ T.freeF q.r (F.park q.r).1 (q.t + y.o) = true ∧ (y.o : Int) ≤ q.hz T
theorem lst_congr {n : Nat} {f g : Nat → Int} (h : ∀ j, j < n → f j = g j) : lst n f = lst n g := by
  unfold lst
  exact List.map_congr_left (fun j hj => h j (List.mem_range.1 hj))
theorem search_good {F : FS} {T : TS} {q : Rq} {S : PS} (hF : FOk F) (hms : S.ms ≤ 4000000) (hc : (PS.search F T q S).2.c = 0) : Found F T q (PS.search F T q S).2 := by
  unfold PS.search at hc ⊢
  by_cases h1 : rcode F T q ≠ 0
  · rw [if_pos h1] at hc
    rcases rcode_is F T q with h | h
    · exact absurd h h1
    · rw [h] at hc; simp [Pl.fail] at hc
  rw [if_neg h1] at hc ⊢
  have h0 : rcode F T q = 0 := by omega
  by_cases h2 : T.sfree q = false
  · rw [if_pos h2] at hc; simp [Pl.fail] at hc
  rw [if_neg h2] at hc ⊢
  obtain ⟨nd, id, y, x, g1, g2, g3, g4⟩ := srch_good hF _ 0 1 _ (sin_beg hF h0 hms) hc
  rw [g4]
  have hO := rok_of hF h0
  have hch := chain_ok g1 hO.s.1 (id + 1) id y g2 (by omega)
  have htr := trcGo_ch g1.tu q.t (id + 1) id y (fun _ => 0) (fun _ => 0) g2 (Nat.le_refl _)
  have hgy : nd.getD id Nd.nil = y := getD_is _ g2
  have hhz := (g1 id y g2).2
  unfold TS.arrd at g3
  simp at g3
  refine ⟨h0, by cases hx : T.sfree q <;> simp_all, y, chP nd (id + 1) id, chD nd q.t (id + 1) id, ?_, ?_, hch, g3.1, g3.2.1, g3.2.2, by omega⟩
  · unfold Pl.trace
    simp only
    rw [hgy]
    refine lst_congr (fun j hj => ?_)
    have := (htr j).1
    rw [if_pos (by omega)] at this
    exact this
  · unfold Pl.trace
    simp only
    refine lst_congr (fun j hj => ?_)
    have := (htr j).2
    rw [if_pos (by rw [g3.1]; exact hj)] at this
    exact this
/-- The done ticks rise. -/
theorem Found.rise {F : FS} {T : TS} {q : Rq} {p : Pl} (h : Found F T q p) : p.done.length = q.gl.length ∧ ∀ (i j : Nat) (a b : Int), i ≤ j → p.done[i]? = some a → p.done[j]? = some b → a ≤ b := by
  obtain ⟨y, P, D, -, h2, h3, h4, -⟩ := h.ex
  have hlen : p.done.length = q.gl.length := by rw [h2, lst_len]
  have hst : ∀ j, j + 1 < q.gl.length → D j ≤ D (j + 1) := fun j hj => by
    have hg : q.gl[j + 1]? = some q.gl[j + 1] := List.getElem?_eq_getElem hj
    have := (h3.dn (j + 1) _ (by omega) hg).1
    rw [if_neg (by omega), Nat.add_sub_cancel] at this
    omega
  have hup : ∀ k i, i + k < q.gl.length → D i ≤ D (i + k) := fun k => by
    induction k with
    | zero => intro i _; exact Int.le_refl _
    | succ k ih => intro i hi; have h1 := ih i (by omega); have h2 := hst (i + k) (by omega); rw [show i + (k + 1) = i + k + 1 by omega]; omega
  refine ⟨hlen, fun i j a b hij ha hb => ?_⟩
  have hj := (List.getElem?_eq_some_iff.1 hb).1
  rw [hlen] at hj
  rw [h2, lst_at _ _ _ (by omega)] at ha
  rw [h2, lst_at _ _ _ hj] at hb
  simp only [Option.some.injEq] at ha hb
  subst ha hb
  have := hup (j - i) i (by omega)
  rw [show i + (j - i) = j by omega] at this
  exact this
end Go.Proofs.Qxb6500716a
