/-
  Plain: a plan that was found is valid.
-/
import Derived.Test.Qxb6500716aLg
namespace Go.Proofs.Qxb6500716a
open Go.RowKit Go.Maps
set_option linter.unusedSimpArgs false
set_option linter.unusedVariables false
set_option maxRecDepth 20000
set_option maxHeartbeats 4000000
theorem near_adj {F : FS} (hF : FOk F) {a b : Int} (ha : 0 ≤ a ∧ a < (F.n : Int)) (h : b ∈ F.near a.toNat) : F.adj a b = true := by
  have hb := hF.near _ _ h
  obtain ⟨k, rfl⟩ : ∃ k : Nat, b = k := ⟨b.toNat, by omega⟩
  have h1 := (hF.one a.toNat k (by omega)).2 h
  unfold FS.adj FS.valid
  simp [h1]
  omega
theorem lst_get {n : Nat} {f : Nat → Int} {j : Nat} {c : Int} (h : (lst n f)[j]? = some c) : j < n ∧ f j = c := by
  have hj : j < n := by
    have := (List.getElem?_eq_some_iff.1 h).1
    rw [lst_len] at this
    exact this
  rw [lst_at _ _ _ hj] at h
  exact ⟨hj, Option.some.inj h⟩
theorem Found.valid {F : FS} {T : TS} {q : Rq} {p : Pl} (hF : FOk F) (hT : TInv T) (hnr : T.nr = F.bays.length) (h : Found F T q p) :
    p.path[0]? = some q.s ∧ p.path[p.path.length - 1]? = some (F.park q.r).1 ∧ (p.path.length : Int) - 1 ≤ q.h ∧
    (∀ (j : Nat) (a b : Int), p.path[j]? = some a → p.path[j + 1]? = some b → b = a ∨ F.adj a b = true) ∧
    (∀ (k j : Nat) (c : Int), k < F.bays.length → (k : Int) ≠ q.r → p.path[j]? = some c → T.at k (q.t + j) ≠ c) ∧
    (∀ (k j : Nat) (a b : Int), k < F.bays.length → (k : Int) ≠ q.r → p.path[j]? = some a → p.path[j + 1]? = some b → a ≠ b → T.at k (q.t + j) = b → T.at k (q.t + (j + 1 : Nat)) ≠ a) ∧
    (∀ (k : Nat) (c t : Int), k < F.bays.length → (k : Int) ≠ q.r → p.path[p.path.length - 1]? = some c → q.t + p.path.length - 1 ≤ t → T.at k t ≠ c) := by
  have hcell := h.cell hF
  have hk := rok_of hF h.rc
  have hsf := h.sf
  obtain ⟨y, P, D, h1, -, h3, h4, h5, h6, h7⟩ := h.ex
  have hlen : p.path.length = y.o + 1 := by rw [h1, lst_len]
  have hget : ∀ (j : Nat) (c : Int), p.path[j]? = some c → j < y.o + 1 ∧ P j = c := fun j c hj => lst_get (by rw [← h1]; exact hj)
  have hat : ∀ j, j < y.o + 1 → p.path[j]? = some (P j) := fun j hj => by rw [h1]; exact lst_at _ _ _ hj
  have hin : ∀ j, j < y.o + 1 → 0 ≤ P j ∧ P j < (F.n : Int) := fun j hj => hcell _ (List.mem_iff_getElem?.2 ⟨j, hat j hj⟩)
  have hhz : q.hz T ≤ q.h := by unfold Rq.hz; omega
  have hlast : p.path[p.path.length - 1]? = some (F.park q.r).1 := by
    rw [hlen, Nat.add_sub_cancel, hat y.o (by omega), h3.e, h5]
  refine ⟨by rw [hat 0 (by omega), h3.s], hlast, by rw [hlen]; omega, fun j a b ha hb => ?_, fun k j c hkk hr hc => ?_, fun k j a b hkk hr ha hb hab he => ?_, fun k c t hkk hr hc ht => ?_⟩
  · obtain ⟨ha1, rfl⟩ := hget j a ha
    obtain ⟨hb1, rfl⟩ := hget (j + 1) b hb
    rcases (h3.st j (by omega)).1 with e | e
    · exact Or.inl e
    · exact Or.inr (near_adj hF (hin j (by omega)) e)
  · obtain ⟨hc1, rfl⟩ := hget j c hc
    cases j with
    | zero =>
      rw [h3.s]
      unfold TS.sfree at hsf
      split at hsf
      · have := (freeM_at hT hsf k (by omega) hr).1
        rw [show q.t - 1 + 1 = q.t + ((0 : Nat) : Int) by omega] at this
        exact this
      · have := freeC_at hT hsf k (by omega) hr
        rw [show q.t = q.t + ((0 : Nat) : Int) by omega] at this
        simpa using this
    | succ j =>
      have := (freeM_at hT (h3.st j (by omega)).2 k (by omega) hr).1
      rw [show q.t + (j : Int) + 1 = q.t + ((j + 1 : Nat) : Int) by omega] at this
      exact this
  · obtain ⟨ha1, rfl⟩ := hget j a ha
    obtain ⟨hb1, rfl⟩ := hget (j + 1) b hb
    have := (freeM_at hT (h3.st j (by omega)).2 k (by omega) hr).2
    rw [show q.t + (j : Int) + 1 = q.t + ((j + 1 : Nat) : Int) by omega] at this
    exact fun e => this ⟨hab, he, e⟩
  · rw [hlast] at hc
    obtain rfl := Option.some.inj hc
    exact (freeF_at hT.m h6).2.2 k t (by omega) hr (by rw [hlen] at ht; omega)
end Go.Proofs.Qxb6500716a
