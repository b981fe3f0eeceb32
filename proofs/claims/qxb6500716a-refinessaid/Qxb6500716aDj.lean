/-
  do: every step; zzSmall1.
-/
import Derived.Test.Qxb6500716aDh
import Derived.Test.Qxb6500716aDi
namespace Go.Proofs.Qxb6500716a
open Go.RowKit Go.Maps
set_option linter.unusedSimpArgs false
set_option linter.unusedVariables false
set_option maxRecDepth 20000
set_option maxHeartbeats 4000000
/-- What a step does. -/
def Dk.step (D : Dk) (o : Opr) : Dk × Nat × List Int :=
  if o.K = 0 then wldAns D o else
  match D.W with
  | none => (D.no, 1, [])
  | some X =>
    if o.K = 1 then ({ D.no with W := some { X with T := (X.T.adv o.C).2 } }, 0, [(X.T.adv o.C).1])
    else if o.K = 2 then ({ D.no with W := some { X with T := (X.T.path o.A o.C o.l).2.2 } }, 0, [(X.T.path o.A o.C o.l).1, (X.T.path o.A o.C o.l).2.1])
    else if o.K = 3 then ({ D.no with W := some { X with T := (X.T.stand o.A o.B o.C).2 } }, 0, [(X.T.stand o.A o.B o.C).1])
    else if o.K = 4 then ({ D.no with W := some { X with T := (X.T.cutC o.A o.C).2.2 } }, 0, [(X.T.cutC o.A o.C).1, (X.T.cutC o.A o.C).2.1])
    else if o.K = 5 then if o.l.length % 2 = 1 then (D.no, 2, []) else (⟨some ⟨X.F, (PS.plan X.F X.T (rqOf o) X.S).2.1, (PS.plan X.F X.T (rqOf o) X.S).1⟩, true, rqOf o, (PS.plan X.F X.T (rqOf o) X.S).2.2⟩, plAns (PS.plan X.F X.T (rqOf o) X.S).2.2)
    else if o.K = 6 then if o.l.length % 2 = 1 then (D.no, 2, []) else (⟨some ⟨X.F, X.T, (PS.ask X.F X.T (rqOf o) X.S).1⟩, true, rqOf o, (PS.ask X.F X.T (rqOf o) X.S).2⟩, plAns (PS.ask X.F X.T (rqOf o) X.S).2)
    else if o.K = 7 then (D.no, estAns X.F o)
    else (D.no, 2, [])
theorem do_any (d : Nat) (m : DM) (D : Dk) (o : Opr) (v : Value) (lab : Nat → Nat) (w : World) (h : DkAt w lab d m D) (hv : Ints w lab v o.l) (hO : OpI o) (hX : ∀ X, D.W = some X → Wok X) :
    Calls Try.prog 12 #[.pointer (some ⟨d, 0, none⟩), .agg #[.int .i64 ((o).K), .int .i64 ((o).A), .int .i64 ((o).B), .int .i64 ((o).C), .int .i64 ((o).D), .int .i64 ((o).E), v]] w (doPost lab d (D.step o) w) := by
  unfold Dk.step
  by_cases h0 : o.K = 0
  · rw [if_pos h0]; exact do_world d m D o v lab w h hv h0
  · rw [if_neg h0]
    cases hW : D.W with
    | none => exact do_none d m D o v lab w h hv h0 hW
    | some X =>
      simp only
      have hK := hX X hW
      have hwd := h.wd
      rw [hW] at hwd
      obtain ⟨fb, M, N, n, -, -, -, hF, hT, -⟩ := hwd
      by_cases h1 : o.K = 1
      · rw [if_pos h1]; exact do_adv d m D o v lab w h hv h1 X hW
      · rw [if_neg h1]
        by_cases h2 : o.K = 2
        · rw [if_pos h2]; exact do_block d m D o v lab w h hv hO h2 X hW hK.held
        · rw [if_neg h2]
          by_cases h3 : o.K = 3
          · rw [if_pos h3]; exact do_stand d m D o v lab w h hv h3 X hW hK.held
          · rw [if_neg h3]
            by_cases h4 : o.K = 4
            · rw [if_pos h4]; exact do_trunc d m D o v lab w h hv hO h4 X hW
            · rw [if_neg h4]
              by_cases h5 : o.K = 5
              · rw [if_pos h5]
                by_cases hodd : o.l.length % 2 = 1
                · rw [if_pos hodd]; exact do_odd d m D o v lab w h hv hO (Or.inl h5) X hW hodd
                · rw [if_neg hodd]; exact do_plan d m D o v lab w h hv hO h5 X hW hK hF.ok hT.bd.base hodd
              · rw [if_neg h5]
                by_cases h6 : o.K = 6
                · rw [if_pos h6]
                  by_cases hodd : o.l.length % 2 = 1
                  · rw [if_pos hodd]; exact do_odd d m D o v lab w h hv hO (Or.inr h6) X hW hodd
                  · rw [if_neg hodd]; exact do_search d m D o v lab w h hv hO h6 X hW hK hF.ok hT.bd.base hodd
                · rw [if_neg h6]
                  by_cases h7 : o.K = 7
                  · rw [if_pos h7]; exact do_est d m D o v lab w h hv hO h7 X hW
                  · rw [if_neg h7]; exact do_bad d m D o v lab w h hv (by omega) X hW
/-- Only the counts of a world may run. -/
structure Wo2 (X : Wd) : Prop where
  nr : X.T.nr = X.F.bays.length
  nc : X.T.nc = X.F.n
  held : X.T.held ≤ X.T.cap
  ms : X.S.ms ≤ 4000000
  f : FOk X.F
def Dk.ok (D : Dk) : Prop := ∀ X, D.W = some X → Wo2 X
theorem Wo2.tab {X : Wd} {T : TS} (h : Wo2 X) (hT : TFx X.T T) : Wo2 { X with T := T } := ⟨hT.nr.trans h.nr, hT.nc.trans h.nc, hT.held h.held, h.ms, h.f⟩
end Go.Proofs.Qxb6500716a
