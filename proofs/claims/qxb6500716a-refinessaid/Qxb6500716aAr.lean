/-
  Plain: the planner's search and the model's answer agree.
-/
import Derived.Test.Qxb6500716aSp
import Derived.Test.Qxb6500716aBt
namespace Go.Proofs.Qxb6500716a
open Go.RowKit Go.Maps
set_option linter.unusedSimpArgs false
set_option linter.unusedVariables false
set_option maxRecDepth 20000
set_option maxHeartbeats 4000000
theorem cntT_nix {p : Nat → Bool} (h : ∀ i, p i = false) : ∀ n, cntT p n = 0
  | 0 => rfl
  | n + 1 => by rw [cntT, cntT_nix h n, h n]; rfl
section
variable {F : FS} {T : TS} {q : Rq} {S : PS} {bay hz : Int}
theorem ast_beg (hF : FOk F) (hs : q.s.toNat < F.n) : Ast F T q bay hz [] [] ((S.beg F T q).reach F q.gl bay hz q.s.toNat 0 0 (-1)) := by
  rw [reach_eq]
  by_cases h1 : hz < ((0 : Nat) : Int) + (F.est bay q.gl q.s.toNat 0 : Int)
  · rw [if_pos h1]
    unfold PS.beg
    exact ⟨fun i y hy => (by simp at hy), fun y hy => (by cases hy), fun c o l _ _ h => (by cases h), fun x hx => (by cases hx), rfl, cntT_nix (fun _ => rfl) _, fun i hi => (by simp at hi), fun i hi => (by cases hi), fun i hi => hi, fun i y hi => (by cases hi), fun h => (by omega)⟩
  · rw [if_neg h1, if_neg (by unfold PS.beg; simp)]
    unfold PS.beg
    simp only [List.nil_append, List.length_nil]
    have hid := idx_nat (F := F) (q := q) q.s.toNat 0 0
    have hlt := idn_lt (F := F) (q := q) (hz := hz) (c := q.s.toNat) (o := 0) (l := 0) hs (Nat.zero_le _) (by omega)
    refine ⟨fun i y hy => ?_, fun y hy => ?_, fun c o l hc hl h => ?_, fun x hx => ?_, rfl, ?_, fun i hi => ?_, fun i hi => (by cases hi), fun i hi => hi, fun i y hi => (by cases hi), fun h => (by simp)⟩
    · have hi : i = 0 := by
        have := (List.getElem?_eq_some_iff.1 hy).1
        simp at this
        exact this
      subst hi
      simp at hy
      subst hy
      exact ⟨Or.inl rfl, by simp only; omega⟩
    · simp at hy
      subst hy
      exact ⟨hs, Nat.zero_le _⟩
    · simp only [Bool.or_false, decide_eq_true_eq] at h
      obtain ⟨rfl, rfl, rfl⟩ := idx_inj hc hs hl (Nat.zero_le _) h
      exact ⟨0, _, rfl, rfl, rfl, rfl⟩
    · simp at hx
      subst hx
      exact ⟨_, rfl, by simp⟩
    · have h0 : cntT (fun _ : Nat => false) (stN2 F q hz) = 0 := cntT_nix (fun _ => rfl) _
      have := cntT_set (f := fun _ : Nat => false) (g := fun j : Nat => (decide ((j : Int) = idx F q.gl q.s.toNat 0 0) || false)) (s := idn F q q.s.toNat 0 0) rfl (by rw [hid]; simp) (fun i hi => by rw [hid]; simp; omega) (stN2 F q hz) hlt
      rw [h0] at this
      exact this
    · simp at hi
      subst hi
      exact Or.inr ⟨_, List.mem_singleton.2 rfl, rfl⟩
theorem search_best (hF : FOk F) (h0 : rcode F T q = 0) (h1 : T.sfree q = true) (hm : stN2 F q (q.hz T) ≤ q.m.toNat) :
    ((PS.search F T q S).2.c = 0 ∧ ∃ y : Nd, Rch F T q y.c y.o y.l ∧ T.arrd q (F.park q.r).1 y = true ∧ (PS.search F T q S).2.path.length = y.o + 1 ∧ (y.o : Int) ≤ q.hz T ∧ ∀ z : Nd, Rch F T q z.c z.o z.l → T.arrd q (F.park q.r).1 z = true → y.o ≤ z.o) ∨
    ((PS.search F T q S).2.c = 4 ∧ ∀ z : Nd, Rch F T q z.c z.o z.l → T.arrd q (F.park q.r).1 z = true → q.hz T < (z.o : Int)) := by
  have hrk := rok_of hF h0
  rw [search_eq h0 h1]
  have hs : q.s.toNat < F.n := by have := hrk.s; omega
  exact srch_best hF hrk.bay.1 hs q.m.toNat 0 [] _ (ast_beg hF hs) rfl (by omega)
theorem agree {code : Nat} {arr : Int} (hS : Solved F T q (F.park q.r).1 (q.hz T) code arr)
    (h : ((PS.search F T q S).2.c = 0 ∧ ∃ y : Nd, Rch F T q y.c y.o y.l ∧ T.arrd q (F.park q.r).1 y = true ∧ (PS.search F T q S).2.path.length = y.o + 1 ∧ (y.o : Int) ≤ q.hz T ∧ ∀ z : Nd, Rch F T q z.c z.o z.l → T.arrd q (F.park q.r).1 z = true → y.o ≤ z.o) ∨ ((PS.search F T q S).2.c = 4 ∧ ∀ z : Nd, Rch F T q z.c z.o z.l → T.arrd q (F.park q.r).1 z = true → q.hz T < (z.o : Int))) :
    (PS.search F T q S).2.c = code ∧ (code = 0 → q.t + ((PS.search F T q S).2.path.length : Int) - 1 = arr) := by
  rcases hS.ex with ⟨rfl, o, rfl, ho, ⟨z, hz1, hz2, hz3⟩, hmin⟩ | ⟨rfl, rfl, hno⟩
  · rcases h with ⟨hc, y, y1, y2, y3, y4, y5⟩ | ⟨hc, hn⟩
    · refine ⟨hc, fun _ => ?_⟩
      have h1 := hmin y y1 y2
      have h2 := y5 z hz2 hz3
      rw [y3]
      omega
    · have := hn z hz2 hz3
      omega
  · rcases h with ⟨hc, y, y1, y2, y3, y4, y5⟩ | ⟨hc, hn⟩
    · have := hno y y1 y2
      omega
    · exact ⟨hc, fun h => by cases h⟩
/-- The whole answer, on a small floor. -/
theorem earliest (hF : FOk F) (hT : TInv T) (hC : T.Cel) (hnr : T.nr = F.bays.length) (hnc : T.nc = F.n) (hn : F.n ≤ 20) (hh : q.h ≤ 24) (hm : q.m = 1048576) {code : Nat} {arr : Int}
    (h : (rcode F T q ≠ 0 ∧ code = 2 ∧ arr = 0) ∨ (rcode F T q = 0 ∧ ((T.blk q F.bays.length = true ∧ code = 3 ∧ arr = 0) ∨ (T.blk q F.bays.length = false ∧ Solved F T q (F.park q.r).1 (q.hz T) code arr)))) :
    (PS.search F T q S).2.c = code ∧ (code = 0 → q.t + ((PS.search F T q S).2.path.length : Int) - 1 = arr) := by
  rcases h with ⟨h0, rfl, rfl⟩ | ⟨h0, h⟩
  · unfold PS.search
    rw [if_pos h0]
    rcases rcode_is F T q with h1 | h1
    · exact absurd h1 h0
    · rw [h1]
      exact ⟨rfl, fun h => by cases h⟩
  · have hb := blk_free hF hT hC hnr hnc h0
    have hrk := rok_of hF h0
    rcases h with ⟨h1, rfl, rfl⟩ | ⟨h1, h2⟩
    · rw [h1] at hb
      have hsf : T.sfree q = false := by cases hx : T.sfree q with
        | false => rfl
        | true => rw [hx] at hb; cases hb
      unfold PS.search
      rw [if_neg (by rw [h0]; simp), if_pos hsf]
      exact ⟨rfl, fun h => by cases h⟩
    · rw [h1] at hb
      have hsf : T.sfree q = true := by cases hx : T.sfree q with
        | true => rfl
        | false => rw [hx] at hb; cases hb
      refine agree h2 (search_best hF h0 hsf ?_)
      unfold stN2
      have h3 : (q.hz T).toNat + 1 ≤ 25 := by
        unfold Rq.hz
        omega
      have h4 : q.gl.length + 1 ≤ 17 := by have := hrk.gok.1; omega
      have h5 : ((q.hz T).toNat + 1) * (q.gl.length + 1) ≤ 25 * 17 := Nat.mul_le_mul h3 h4
      have h6 : ((q.hz T).toNat + 1) * (q.gl.length + 1) * F.n ≤ 25 * 17 * 20 := Nat.mul_le_mul h5 hn
      rw [hm]
      omega
end
end Go.Proofs.Qxb6500716a
