/-
  TableIsTripleList: the row.
-/
import Derived.Test.Qxb6500717aGreatZw
import Derived.Test.Qxb6500717aGreatScript
namespace Go.Proofs.Qxb6500717aGreat
open Go.ChangeShapes Go.WideShapes Go.ChangeAt Go.RowKit Go.Deep
set_option linter.unusedSimpArgs false
set_option linter.unusedVariables false
theorem lawZ3 (sb so n cap : Nat) (o : Nat → Opr) (lao : Nat → Option Addr) (llen lcap : Nat → Nat) (w : World) (hS : Scr w sb so n o lao llen lcap) (hn : n ≤ 9223372036854775807) :
    Calls Tryz.prog 3 #[.slice (some ⟨sb, so, none⟩) n cap] w fun e w' => e = .returned (.bool true) ∧ Below w.heap.size w w' :=
  lawG3 (some ⟨sb, so, none⟩) n cap o lao llen lcap w (fun _ _ => ⟨sb, so, rfl, hS⟩) (small_any sb so n cap o lao llen lcap w hS hn)
theorem lawZ3_none (ao : Option Addr) (cap : Nat) (w : World) : Calls Tryz.prog 3 #[.slice ao 0 cap] w fun e w' => e = .returned (.bool true) ∧ Below w.heap.size w w' :=
  lawG3 ao 0 cap (fun _ => ⟨0, 0, 0, 0, 0, []⟩) (fun _ => none) (fun _ => 0) (fun _ => 0) w (fun i h => by omega) ((small_none ao cap w).mono fun e w' h => ⟨⟨true, h.1, fun _ => ⟨by omega, fun i h => by omega⟩⟩, h.2⟩)
set_option maxRecDepth 100000 in
theorem lifted3 (os : Os) (started : os.Started) (H : Type) (enc : TypeId × Value → H) :
    ReturnsInHanded {} Tryz.checked os 3 .any (Rows.tableIsTripleListSpec.pre6 enc Tryz.prog Tryz.f3 Rows.tableIsTripleListRow.domain false) (Rows.tableIsTripleListSpec.post enc Tryz.prog Tryz.f3 false true false false) := by
  refine returnsInHanded_of_change_sized (C := Tryz.checked) own started (by kernel_rfl) Tryz.func3
    (ChangeSpec.witness6 (enc := enc) (C := Tryz.checked) false ⟨#[], #[.slice none 0 0], []⟩ 8 (by kernel_rfl) (by kernel_rfl) (by kernel_rfl) (by kernel_rfl)) ?_
  intro W base args ds gs before hval0 hW _ hsz0 _
  have hval : ∀ (j : Nat) t v, Tryz.f3.params[j]? = some t → args[j]? = some v → Value.okWide Tryz.prog W .any base t v := hval0
  have hW0 := hW
  have hW' := hW
  obtain ⟨p, q, hA0, hV, rfl, hfz, hnd⟩ := hW
  have hA : DataW.TrodAll enc Tryz.prog W 0 (fun _ => true) true Tryz.f3.params.toList args.toList ds p := hA0
  rw [Tryz.params3] at hA hval
  obtain ⟨v0, d0, rfl, rfl, h0⟩ := trodAll_one hA
  obtain ⟨rfl, rfl⟩ := trodVars_none hV
  simp only [List.append_nil] at hW' hsz0
  have hsz : ∀ x ∈ d0.weights Tryz.prog 22, x ≤ reachBytes := fun x hx => by
    have := List.all_eq_true.1 hsz0 x (DataW.weights_mem_each (j := 0) (t := 22) rfl rfl x hx)
    simpa using this
  have hlt : ∀ x ∈ p, x.block < W.heap.size := fun x hx => by simpa using hW'.lt x hx
  have fin : ∀ W' : World, Below W.heap.size W W' → Rows.tableIsTripleListSpec.post enc Tryz.prog Tryz.f3 false true false false W #[v0] (.bool true) W' := fun W' hb => by
    refine ⟨[d0], [], p ++ [], [], p, [], hW0, trodAll_mk1 (shut_bool Tryz.underlying4 _), trodAll_mk1 (WideElems.Trod_stays laidOut (by kernel_rfl) (of_decide_eq_true (by kernel_rfl)) h0 (fun x hx => hb.same (hlt x hx)) (fun x hx => by simpa using hlt x hx)), rfl, hb.frame _, fun h => nomatch h⟩
  have done : Calls Tryz.prog 3 #[v0] W fun e w' => e = .returned (.bool true) ∧ Below W.heap.size W w' := by
    rcases script_open (okWide_slice Tryz.underlying22 (hval 0 22 v0 rfl rfl)) h0 hsz with ⟨ao, cap, rfl⟩ | ⟨sb, so, n, cap, o, lao, llen, lcap, rfl, hn, hS⟩
    · exact lawZ3_none ao cap W
    · exact lawZ3 sb so n cap o lao llen lcap W hS hn
  refine done.mono fun e W' ⟨he, hz⟩ => ?_
  subst he
  exact ⟨_, rfl, fin W' hz⟩

theorem tableIsTripleList_holds : Rows.TableIsTripleListSaid :=
  OpenClaim.holds_of_wide 3 Tryz.f3 rfl rfl rfl rfl rfl rfl rfl ⟨rfl, rfl, rfl, rfl, rfl⟩ rfl rfl rfl rfl rfl (by kernel_rfl) Tryz.func3 (by kernel_rfl)
    (of_decide_eq_true (by kernel_rfl)) (by unfold Func.isWrapper; first | (rw [if_pos (by decide +kernel)]; kernel_rfl) | (rw [if_neg (by decide +kernel)]; exact ⟨rfl, rfl⟩))
    (fun os started H enc _ => lifted3 os started H enc)
end Go.Proofs.Qxb6500717aGreat
