/-
  Plain: what a step does to the counts.
-/
import Derived.Test.Qxb6500716aDj
namespace Go.Proofs.Qxb6500716a
open Go.RowKit Go.Maps
set_option linter.unusedSimpArgs false
set_option linter.unusedVariables false
set_option maxRecDepth 20000
set_option maxHeartbeats 4000000
/-- What stands of a world; B bounds its counts. -/
structure WB (X : Wd) (B : Int) : Prop where
  nr : X.T.nr = X.F.bays.length
  nc : X.T.nc = X.F.n
  held : X.T.held ≤ X.T.cap
  ms : X.S.ms ≤ 4000000
  st : ∀ i, i < 11 → 0 ≤ X.S.st i ∧ X.S.st i ≤ B
  z : X.S.st 0 = 0 → ∀ i, i < 11 → X.S.st i = 0
theorem WB.ok {X : Wd} {B : Int} (h : WB X B) (hB : B ≤ 1000000000000) : Wok X := ⟨h.nr, h.nc, h.held, h.ms, fun i hi => by have := h.st i hi; omega⟩
theorem WB.tab {X : Wd} {T : TS} {B C : Int} (h : WB X B) (hT : TFx X.T T) (hC : B ≤ C) : WB { X with T := T } C := ⟨hT.nr.trans h.nr, hT.nc.trans h.nc, hT.held h.held, h.ms, fun i hi => by have := h.st i hi; simp only; omega, h.z⟩
theorem WB.mono {X : Wd} {B C : Int} (h : WB X B) (hC : B ≤ C) : WB X C := ⟨h.nr, h.nc, h.held, h.ms, fun i hi => by have := h.st i hi; omega, h.z⟩
theorem noteSt_bd {st : Nat → Int} {c : Nat} {x : Int} {len : Nat} {B : Int} (h : ∀ i, i < 11 → 0 ≤ st i ∧ st i ≤ B) (hc : c < 8) (hx : 0 ≤ x ∧ x ≤ 1048576) (hl : len ≤ 256) : (∀ i, i < 11 → 0 ≤ noteSt st c x len i ∧ noteSt st c x len i ≤ B + 1048577) ∧ 1 ≤ noteSt st c x len 0 := by
  refine ⟨fun i hi => ?_, ?_⟩
  · have h0 := h 0 (by omega)
    have h1 := h i hi
    have h9 := h 9 (by omega)
    have h10 := h 10 (by omega)
    unfold noteSt
    split
    · omega
    · split
      · omega
      · split
        · omega
        · split
          · split <;> omega
          · omega
  · have h0 := h 0 (by omega)
    unfold noteSt
    rw [if_pos rfl]
    omega
theorem ask_ms {F : FS} {T : TS} {q : Rq} {S : PS} (hF : FOk F) (hms : S.ms ≤ 4000000) : (PS.ask F T q S).1.ms ≤ 4000000 ∧ (PS.ask F T q S).1.st = noteSt S.st (PS.ask F T q S).2.c (PS.ask F T q S).2.x (PS.ask F T q S).2.path.length := by
  have h := search_ok (T := T) (q := q) hF hms
  unfold PS.ask
  refine ⟨h.ms, ?_⟩
  simp only [PS.note, h.st]
/-- The kinds of a step's outcome. -/
theorem step_cases (D : Dk) (o : Opr) (hF : ∀ X, D.W = some X → FOk X.F ∧ X.S.ms ≤ 4000000) :
    ((D.step o).1.ask = false ∧ ((D.W = none ∧ (D.step o).1.W = none) ∨ (∃ X T, D.W = some X ∧ TFx X.T T ∧ (D.step o).1.W = some { X with T := T }) ∨ (o.K = 0 ∧ ∃ F cap, (D.step o).1.W = some (Wd.new F cap)))) ∨
    ((D.step o).1.ask = true ∧ o.K ≠ 0 ∧ ∃ X T S, D.W = some X ∧ TFx X.T T ∧ (D.step o).1.W = some ⟨X.F, T, S⟩ ∧ PlOk X.F X.T (rqOf o) (D.step o).1.pl ∧ (D.step o).1.q = rqOf o ∧ S.ms ≤ 4000000 ∧ S.st = noteSt X.S.st (D.step o).1.pl.c (D.step o).1.pl.x (D.step o).1.pl.path.length) := by
  have same : ∀ c, ((D.no, c) : Dk × Nat × List Int).1.ask = false ∧ ((D.W = none ∧ ((D.no, c) : Dk × Nat × List Int).1.W = none) ∨ (∃ X T, D.W = some X ∧ TFx X.T T ∧ ((D.no, c) : Dk × Nat × List Int).1.W = some { X with T := T }) ∨ (o.K = 0 ∧ ∃ F cap, ((D.no, c) : Dk × Nat × List Int).1.W = some (Wd.new F cap))) := fun c => by
    refine ⟨rfl, ?_⟩
    cases hW : D.W with
    | none => exact Or.inl ⟨rfl, hW⟩
    | some X => exact Or.inr (Or.inl ⟨X, X.T, rfl, TFx.rf _, hW⟩)
  unfold Dk.step
  by_cases h0 : o.K = 0
  · rw [if_pos h0]
    unfold wldAns
    split
    · exact Or.inl (same _)
    · split
      · exact Or.inl (same _)
      · exact Or.inl ⟨rfl, Or.inr (Or.inr ⟨h0, _, _, rfl⟩)⟩
  · rw [if_neg h0]
    cases hW : D.W with
    | none => left; have := same (1, []); rw [hW] at this; exact this
    | some X =>
      have hX := hF X hW
      have same' : ∀ c, ((D.no, c) : Dk × Nat × List Int).1.ask = false ∧ ((some X = none ∧ ((D.no, c) : Dk × Nat × List Int).1.W = none) ∨ (∃ X' T, some X = some X' ∧ TFx X'.T T ∧ ((D.no, c) : Dk × Nat × List Int).1.W = some { X' with T := T }) ∨ (o.K = 0 ∧ ∃ F cap, ((D.no, c) : Dk × Nat × List Int).1.W = some (Wd.new F cap))) := fun c => by
        have := same c; rw [hW] at this; exact this
      simp only
      split
      · exact Or.inl ⟨rfl, Or.inr (Or.inl ⟨X, _, rfl, adv_fx _ _, rfl⟩)⟩
      · split
        · exact Or.inl ⟨rfl, Or.inr (Or.inl ⟨X, _, rfl, path_fx _ _ _ _, rfl⟩)⟩
        · split
          · exact Or.inl ⟨rfl, Or.inr (Or.inl ⟨X, _, rfl, stand_fx _ _ _ _, rfl⟩)⟩
          · split
            · exact Or.inl ⟨rfl, Or.inr (Or.inl ⟨X, _, rfl, cutC_fx _ _ _, rfl⟩)⟩
            · split
              · split
                · exact Or.inl (same' _)
                · exact Or.inr ⟨rfl, h0, X, _, _, rfl, plan_fx, rfl, plan_pl hX.1 hX.2, rfl, (plan_ms hX.1 hX.2).1, (plan_ms hX.1 hX.2).2⟩
              · split
                · split
                  · exact Or.inl (same' _)
                  · exact Or.inr ⟨rfl, h0, X, _, _, rfl, TFx.rf _, rfl, ask_pl hX.1 hX.2, rfl, (ask_ms hX.1 hX.2).1, (ask_ms hX.1 hX.2).2⟩
                · split
                  · exact Or.inl (same' _)
                  · exact Or.inl (same' _)
theorem new_wb (F : FS) (cap : Nat) {B : Int} (hB : 0 ≤ B) : WB (Wd.new F cap) B := by
  have h := Wd.new_ok F cap
  exact ⟨h.nr, h.nc, h.held, h.ms, fun i _ => by simp only [Wd.new, PS.new]; omega, fun _ i _ => rfl⟩
theorem step_wb {D : Dk} {o : Opr} {B : Int} (hB : 0 ≤ B) (hD : ∀ X, D.W = some X → WB X B) (hF : ∀ X, D.W = some X → FOk X.F) : ∀ X, (D.step o).1.W = some X → WB X (B + 1048577) := by
  intro Y hY
  rcases step_cases D o (fun X hX => ⟨hF X hX, (hD X hX).ms⟩) with ⟨-, h⟩ | ⟨-, -, X, T, S, h1, h2, h3, h4, h5, h6, h7⟩
  · rcases h with ⟨-, h⟩ | ⟨X, T, h1, h2, h3⟩ | ⟨-, F, cap, h⟩
    · rw [h] at hY; cases hY
    · rw [h3] at hY
      simp only [Option.some.injEq] at hY
      rw [← hY]
      exact (hD X h1).tab h2 (by omega)
    · rw [h] at hY
      simp only [Option.some.injEq] at hY
      rw [← hY]
      exact new_wb F cap (by omega)
  · rw [h3] at hY
    simp only [Option.some.injEq] at hY
    rw [← hY]
    have hX := hD X h1
    have hn := noteSt_bd hX.st h4.c ⟨h4.x.1, h4.x.2.2⟩ h4.ln
    refine ⟨h2.nr.trans hX.nr, h2.nc.trans hX.nc, h2.held hX.held, h6, fun i hi => ?_, fun h => ?_⟩
    · simp only; rw [h7]; exact hn.1 i hi
    · simp only at h; rw [h7] at h; have := hn.2; omega
/-- What the law counts beside. -/
def wantOf (D : Dk) : Nat → Int := match D.W with
  | none => fun _ => 0
  | some X => X.S.st
end Go.Proofs.Qxb6500716a
