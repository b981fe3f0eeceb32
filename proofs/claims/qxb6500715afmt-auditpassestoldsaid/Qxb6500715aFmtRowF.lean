/-
  AuditPasses: the row and the card (told and tied).
-/
import Derived.Test.Qxb6500715aFmtGlob
import Derived.Test.Qxb6500715aFmtLawF
import Derived.Test.Qxb6500715aFmtTie
import Derived.Test.Qxb6500715aFmtCards
import Derived.Stop.JoinedTold
import Derived.Deep.DeepWitnessRef
import Derived.SevenTiedAt
import Derived.WideRow
namespace Go.Proofs.Qxb6500715aFmt
open Go.ChangeShapes Go.WideShapes Go.ChangeAt Go.RowKit Go.Deep
set_option linter.unusedSimpArgs false
set_option linter.unusedVariables false

theorem stopsF : Tryf.pinned.checked.prog.stops = ["fmt.errorf"] := by kernel_rfl
theorem knobsF : Tryf.pinned.checked.prog.stopKnobs = [] := by kernel_rfl
theorem quietF (os : Os) : Stop.quiet Tryf.pinned.checked.prog os := by
  intro k hk
  rw [knobsF] at hk
  cases hk

set_option maxRecDepth 100000 in
theorem liftedF (os : Os) (started : os.Started) (H : Type) (enc : TypeId × Value → H) :
    ReturnsInTold none {} Tryf.checked os 3 .any Input.okWide ((OpenSpec.ofChange Rows.auditPassesSpec).preRow enc Tryf.prog Tryf.f3 [] false laid2) (fun F => ((OpenSpec.ofChange Rows.auditPassesSpec).at F).post enc Tryf.prog Tryf.f3 false true false false) (aloneAtReturn Tryf.prog) nothingAlways := by
  refine returnsInTold_of_row (C := Tryf.checked) (s := OpenSpec.ofChange Rows.auditPassesSpec) (by kernel_rfl) own started (by kernel_rfl) Tryf.func3
    (OpenSpec.witness_stopped_atRef (enc := enc) (C := Tryf.checked) false (World.doorLaid Tryf.prog 400 os) #[.slice none 0 0] rfl (by kernel_rfl) (by kernel_rfl) (by kernel_rfl)
      (OpenSpec.preRow_of_B rfl 8 (by kernel_rfl) (by kernel_rfl) (laidMetH_of_parts3 (fuel := 8) (laidMet_of_run' 8 (by kernel_rfl) (by kernel_rfl)) (by kernel_rfl) (by kernel_rfl)))) ?_
  intro F W base args ds gs before _ _ hval0 hW _ _ hsz0 hL _
  have hval : ∀ (j : Nat) t v, Tryf.f3.params[j]? = some t → args[j]? = some v → Value.okWide Tryf.prog W .any base t v := hval0
  have hW0 := hW
  have hW' := hW
  obtain ⟨p, q, hA0, hV, rfl, hfz, hnd⟩ := hW
  have hA : DataW.TrodAll enc Tryf.prog W 0 (fun _ => true) true Tryf.f3.params.toList args.toList ds p := hA0
  rw [Tryf.params3] at hA hval
  obtain ⟨v0, d0, rfl, rfl, h0⟩ := trodAll_one hA
  obtain ⟨rfl, rfl⟩ := trodVars_none hV
  simp only [List.append_nil] at hW' hsz0
  have hsz : ∀ x ∈ d0.weights Tryf.prog 22, x ≤ reachBytes := fun x hx => by
    have := List.all_eq_true.1 hsz0 x (DataW.weights_mem_each (j := 0) (t := 22) rfl rfl x hx)
    simpa using this
  have hlt : ∀ x ∈ p, x.block < W.heap.size := fun x hx => by simpa using hW'.lt x hx
  have fin : ∀ z : World, ((OpenSpec.ofChange Rows.auditPassesSpec).at F.told).post enc Tryf.prog Tryf.f3 false true false false W #[v0] (.bool true) (W.ext z) := fun z => by
    have hb : Below W.heap.size W (W.ext z) := World.below_ext W z
    refine ⟨[d0], [], p ++ [], [], p, [], hW0, trodAll_mk1 (shut_bool Tryf.underlying4 _), trodAll_mk1 (WideElems.Trod_stays laidOut (by kernel_rfl) (of_decide_eq_true (by kernel_rfl)) h0 (fun x hx => hb.same (hlt x hx)) (fun x hx => by simpa using hlt x hx)), rfl, hb.frame _, fun h => nomatch h⟩
  have done : Calls Tryf.prog 3 #[v0] W fun e w' => e = .returned (.bool true) ∧ ∃ z, w' = W.ext z := by
    rcases script_open (okWide_slice Tryf.underlying22 (hval 0 22 v0 rfl rfl)) h0 hsz with ⟨ao, cap, rfl⟩ | ⟨sb, so, n, cap, K, A, B, dao, dlen, dcap, f, rfl, hn, hS⟩
    · exact lawF_none ao cap W
    · exact lawF sb so n cap K A B dao dlen dcap f W (globs2_of hL).1 (globs2_of hL).2 hS hn
  refine done.mono fun e W' ⟨he, z, hz⟩ => ?_
  subst he; subst hz
  exact ⟨_, rfl, fin z⟩

set_option maxRecDepth 100000 in
theorem auditPasses_told : Rows.AuditPassesToldSaid :=
  Claim7.holds_of_told_tied_any_at .later 3 Tryf.f3 "fmt.errorf" [] [] _ _ _ _ _ (by kernel_rfl) rfl rfl rfl laidOut (by kernel_rfl) rfl ⟨rfl, rfl, rfl, rfl, rfl, rfl, rfl⟩ rfl rfl (by kernel_rfl) (by kernel_rfl) Tryf.func3 (by kernel_rfl)
    (of_decide_eq_true (by kernel_rfl)) (of_decide_eq_true (by kernel_rfl)) stopsF.symm rfl knobsF.symm (by kernel_rfl)
    (by kernel_rfl) (by kernel_rfl) (by kernel_rfl) (by kernel_rfl) (by kernel_rfl) (by kernel_rfl) (by kernel_rfl) (by kernel_rfl) (by kernel_rfl) rfl (by kernel_rfl) rfl rfl
    rfl rfl
    rfl (by kernel_rfl) (by kernel_rfl) (by kernel_rfl) (by decide) (by kernel_rfl) auditPasses_row_tie
    (OpenClaim.moreEntering_of (by kernel_rfl) (by kernel_rfl) (by kernel_rfl) (by kernel_rfl) (by kernel_rfl) (by kernel_rfl) (by kernel_rfl) (by kernel_rfl) (by kernel_rfl) (by kernel_rfl))
    ⟨_, WideRow.started_initial, quietF _⟩
    (fun os started _ H enc _ => liftedF os started H enc)
end Go.Proofs.Qxb6500715aFmt
