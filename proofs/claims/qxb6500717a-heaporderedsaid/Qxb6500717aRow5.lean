/-
  HeapOrdered: the row.
-/
import Derived.Test.Qxb6500717aHo2
import Derived.Test.Qxb6500717aScript
namespace Go.Proofs.Qxb6500717a
open Go.ChangeShapes Go.WideShapes Go.ChangeAt Go.RowKit Go.Deep
set_option linter.unusedSimpArgs false
set_option linter.unusedVariables false

set_option maxRecDepth 100000 in
theorem lifted5 (os : Os) (started : os.Started) (H : Type) (enc : TypeId × Value → H) :
    ReturnsInHanded {} Try.checked os 5 .any (Rows.heapOrderedSpec.pre6 enc Try.prog Try.f5 Rows.heapOrderedRow.domain false) (Rows.heapOrderedSpec.post enc Try.prog Try.f5 false true false false) := by
  refine returnsInHanded_of_change_sized (C := Try.checked) own started (by kernel_rfl) Try.func5
    (ChangeSpec.witness6 (enc := enc) (C := Try.checked) false ⟨#[], #[.slice none 0 0], []⟩ 8 (by kernel_rfl) (by kernel_rfl) (by kernel_rfl) (by kernel_rfl)) ?_
  intro W base args ds gs before hval0 hW _ hsz0 _
  have hval : ∀ (j : Nat) t v, Try.f5.params[j]? = some t → args[j]? = some v → Value.okWide Try.prog W .any base t v := hval0
  have hW0 := hW
  have hW' := hW
  obtain ⟨p, q, hA0, hV, rfl, hfz, hnd⟩ := hW
  have hA : DataW.TrodAll enc Try.prog W 0 (fun _ => true) true Try.f5.params.toList args.toList ds p := hA0
  rw [Try.params5] at hA hval
  obtain ⟨v0, d0, rfl, rfl, h0⟩ := trodAll_one hA
  obtain ⟨rfl, rfl⟩ := trodVars_none hV
  simp only [List.append_nil] at hW' hsz0
  have hsz : ∀ x ∈ d0.weights Try.prog 22, x ≤ reachBytes := fun x hx => by
    have := List.all_eq_true.1 hsz0 x (DataW.weights_mem_each (j := 0) (t := 22) rfl rfl x hx)
    simpa using this
  have hlt : ∀ x ∈ p, x.block < W.heap.size := fun x hx => by simpa using hW'.lt x hx
  have fin : ∀ W' : World, Below W.heap.size W W' → Rows.heapOrderedSpec.post enc Try.prog Try.f5 false true false false W #[v0] (.bool true) W' := fun W' hb => by
    refine ⟨[d0], [], p ++ [], [], p, [], hW0, trodAll_mk1 (shut_bool Try.underlying4 _), trodAll_mk1 (WideElems.Trod_stays laidOut (by kernel_rfl) (of_decide_eq_true (by kernel_rfl)) h0 (fun x hx => hb.same (hlt x hx)) (fun x hx => by simpa using hlt x hx)), rfl, hb.frame _, fun h => nomatch h⟩
  have done : Calls Try.prog 5 #[v0] W fun e w' => e = .returned (.bool true) ∧ Below W.heap.size W w' := by
    rcases script_open (okWide_slice Try.underlying22 (hval 0 22 v0 rfl rfl)) h0 hsz with ⟨ao, cap, rfl⟩ | ⟨sb, so, n, cap, o, lao, llen, lcap, rfl, hn, hS⟩
    · exact law5_none ao cap W
    · exact lawR5 sb so n cap o lao llen lcap W hS hn
  refine done.mono fun e W' ⟨he, hz⟩ => ?_
  subst he
  exact ⟨_, rfl, fin W' hz⟩

theorem heapOrdered_holds : Rows.HeapOrderedSaid :=
  OpenClaim.holds_of_wide 5 Try.f5 rfl rfl rfl rfl rfl rfl rfl ⟨rfl, rfl, rfl, rfl, rfl⟩ rfl rfl rfl rfl rfl (by kernel_rfl) Try.func5 (by kernel_rfl)
    (of_decide_eq_true (by kernel_rfl)) (by unfold Func.isWrapper; first | (rw [if_pos (by decide +kernel)]; kernel_rfl) | (rw [if_neg (by decide +kernel)]; exact ⟨rfl, rfl⟩))
    (fun os started H enc _ => lifted5 os started H enc)
end Go.Proofs.Qxb6500717a
