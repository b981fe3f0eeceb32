/-
  EncodingRoundTrips: the row and the card.
-/
import Derived.Test.Qxb6500715aDoorScript
import Derived.Test.Qxb6500715aDoorTie
import Derived.Test.Qxb6500715aDoorCards
namespace Go.Proofs.Qxb6500715aDoor
open Go.ChangeShapes Go.WideShapes Go.ChangeAt Go.RowKit Go.Deep
set_option linter.unusedSimpArgs false
set_option linter.unusedVariables false

theorem small_none (ao : Option Addr) (cap : Nat) (w : World) : Calls Tryd.prog 11 #[.slice ao 0 cap] w fun e w' => e = .returned (.bool true) ∧ w' = w := by
  go_enter Tryd.func11, Tryd.ntmps11
  go_wp2
  refine wp_loop_once ?_
  go_wp2
  go_ret
  exact ⟨rfl, rfl⟩

theorem law8_none (ao : Option Addr) (cap : Nat) (w : World) : Calls Tryd.prog 8 #[.slice ao 0 cap] w fun e w' => e = .returned (.bool true) ∧ ∃ z, w' = w.ext z := by
  go_enter Tryd.func8, Tryd.ntmps8
  go_wp2_with fail
  refine (small_none ao cap w).mono ?_
  rintro e w1 ⟨rfl, hw1⟩
  obtain rfl : w = w1 := hw1.symm
  clear hw1
  go_wp2_with fail
  refine wp_loop_once ?_
  go_wp2
  go_ret
  exact ⟨rfl, (Below.rf _).is_ext⟩

theorem own : ownKnob Tryd.prog.godebug = none := by kernel_rfl
theorem gAcc : Tryd.prog.globalNamed (Rows.encodingRoundTripsRow.named.headD default) = some 0 := by kernel_rfl
theorem tAcc : (Tryd.prog.globals[0]?).map (·.type) = some 69 := by kernel_rfl
theorem laidOut : laidOutB Tryd.prog = true := by kernel_rfl

abbrev laid1 : List (String × DataW Unit) := Rows.encodingRoundTripsRow.laid

theorem two_of {α : Type} {l : List α} (h : l.length = 2) : ∃ a b, l = [a, b] :=
  match l, h with
  | [a, b], _ => ⟨a, b, rfl⟩

theorem globs_of {W : World} (h : laidMetH Tryd.prog laid1 W) : Globs W := by
  rw [MakeChecks.laidMetH_plain _ _ _ (by kernel_rfl)] at h
  obtain ⟨ps, ⟨g0, t0, cs0, f0, p0, q0, hg0, ht0, hv0, hd0, _, _⟩, _, _⟩ := h
  obtain rfl := Option.some.inj (gAcc.symm.trans hg0)
  obtain rfl := Option.some.inj (tAcc.symm.trans ht0)
  obtain ⟨y0, y1, m, hx, hl, h0, h1⟩ := trod_struct2 Tryd.underlying69 hd0
  have c69 : Tryd.prog.cellsOf 69 = 2 := by kernel_rfl
  have c68 : Tryd.prog.cellsOf 67 = 1 := by kernel_rfl
  obtain ⟨cs⟩ := cs0
  rw [c69] at hl
  simp only [cells3, c68] at h0 h1
  obtain ⟨a0, a1, rfl⟩ := two_of hl
  simp only [List.drop_zero, List.drop_succ_cons, List.take_succ_cons, List.take_zero] at h0 h1
  obtain ⟨k0, e0, f0, _⟩ := DataW.trod_int Tryd.underlying67 h0
  obtain ⟨k1, e1, f1, _⟩ := DataW.trod_int Tryd.underlying3 h1
  simp only [List.cons.injEq, and_true] at e0 e1
  subst e0 e1 f0 f1
  simp only [Rows.laid_e2e_floor_accepted, Prod.mk.injEq, DataW.agg.injEq, List.cons.injEq, DataW.lit.injEq, Lit.int.injEq, true_and, and_true] at hx
  obtain ⟨⟨rfl, rfl⟩, _⟩ := hx
  have g0 := World.var?_cell hg0 hv0 0
  have g1 := World.var?_cell hg0 hv0 1
  exact ⟨World.block_lt_of_cell? W ⟨0, 0, none⟩ (by simpa using g0), by simpa using g0, by simpa using g1⟩

set_option maxRecDepth 100000 in
theorem lifted8 (os : Os) (started : os.Started) (H : Type) (enc : TypeId × Value → H) :
    ReturnsInHanded {} Tryd.checked os 8 .any (fun w args => (Rows.encodingRoundTripsSpec.pre enc Tryd.prog Tryd.f8 [] false w args ∧ laidMetH Tryd.prog laid1 w) ∧ sizedMet enc Tryd.prog Tryd.f8 (OpenSpec.ofChange Rows.encodingRoundTripsSpec) false w args)
      (Rows.encodingRoundTripsSpec.post enc Tryd.prog Tryd.f8 false true false false) := by
  refine returnsInHanded_of_change_and (C := Tryd.checked) (X := fun w _ => laidMetH Tryd.prog laid1 w) (fun _ _ _ hh h => h.of_heap hh) own started (by kernel_rfl) Tryd.func8
    (ChangeSpec.witness_shaped (enc := enc) (C := Tryd.checked) (os := os) (X := fun w _ => laidMetH Tryd.prog laid1 w) false (World.doorLaid Tryd.prog 400 os) #[.slice none 0 0] 8 rfl (World.shaped_of_RefB (by kernel_rfl) (by kernel_rfl)) (by kernel_rfl) (by kernel_rfl) (by kernel_rfl) (laidMetH_of_parts3 (fuel := 8) (laidMet_of_run' 8 (by kernel_rfl) (by kernel_rfl)) (by kernel_rfl) (by kernel_rfl))) ?_
  intro W base args ds gs before hval0 hW _ hsz0 hL _
  have hval : ∀ (j : Nat) t v, Tryd.f8.params[j]? = some t → args[j]? = some v → Value.okWide Tryd.prog W .any base t v := hval0
  have hW0 := hW
  have hW' := hW
  obtain ⟨p, q, hA0, hV, rfl, hfz, hnd⟩ := hW
  have hA : DataW.TrodAll enc Tryd.prog W 0 (fun _ => true) true Tryd.f8.params.toList args.toList ds p := hA0
  rw [Tryd.params8] at hA hval
  obtain ⟨v0, d0, rfl, rfl, h0⟩ := trodAll_one hA
  obtain ⟨rfl, rfl⟩ := trodVars_none hV
  simp only [List.append_nil] at hW' hsz0
  have hsz : ∀ x ∈ d0.weights Tryd.prog 22, x ≤ reachBytes := fun x hx => by
    have := List.all_eq_true.1 hsz0 x (DataW.weights_mem_each (j := 0) (t := 22) rfl rfl x hx)
    simpa using this
  have hlt : ∀ x ∈ p, x.block < W.heap.size := fun x hx => by simpa using hW'.lt x hx
  have fin : ∀ z : World, Rows.encodingRoundTripsSpec.post enc Tryd.prog Tryd.f8 false true false false W #[v0] (.bool true) (W.ext z) := fun z => by
    have hb : Below W.heap.size W (W.ext z) := World.below_ext W z
    refine ⟨[d0], [], p ++ [], [], p, [], hW0, trodAll_mk1 (shut_bool Tryd.underlying4 _), trodAll_mk1 (WideElems.Trod_stays laidOut (by kernel_rfl) (of_decide_eq_true (by kernel_rfl)) h0 (fun x hx => hb.same (hlt x hx)) (fun x hx => by simpa using hlt x hx)), rfl, hb.frame _, fun h => nomatch h⟩
  have done : Calls Tryd.prog 8 #[v0] W fun e w' => e = .returned (.bool true) ∧ ∃ z, w' = W.ext z := by
    rcases script_open (okWide_slice Tryd.underlying22 (hval 0 22 v0 rfl rfl)) h0 hsz with ⟨ao, cap, rfl⟩ | ⟨sb, so, n, cap, K, A, B, dao, dlen, dcap, f, rfl, hn, hS⟩
    · exact law8_none ao cap W
    · exact law8 sb so n cap K A B dao dlen dcap f W (globs_of hL) hS hn
  refine done.mono fun e W' ⟨he, z, hz⟩ => ?_
  subst he; subst hz
  exact ⟨_, rfl, fin z⟩

theorem encodingRoundTrips_holds : Rows.EncodingRoundTripsSaid :=
  OpenClaim.holds_of_wide 8 Tryd.f8 rfl rfl rfl rfl rfl rfl rfl ⟨rfl, rfl, rfl, rfl, rfl⟩ rfl rfl rfl rfl rfl (by kernel_rfl) Tryd.func8 (by kernel_rfl)
    (of_decide_eq_true (by kernel_rfl)) (by unfold Func.isWrapper; first | (rw [if_pos (by decide +kernel)]; kernel_rfl) | (rw [if_neg (by decide +kernel)]; exact ⟨rfl, rfl⟩))
    (fun os started H enc _ => lifted8 os started H enc)

theorem encodingRoundTrips_card : Rows.EncodingRoundTripsCardSaid :=
  Claim7.holds_tied_plain_at .later [] [.data] true Rows.encodingRoundTripsCard.stood.harness false
    encodingRoundTrips_holds (fun _ h => by cases h) (by kernel_rfl) (fun _ h => by cases h) encodingRoundTrips_row_tie rfl ⟨rfl, rfl⟩ (by kernel_rfl) rfl
    (fun f fn hf hfn => by
      obtain rfl : f = 8 := Option.some.inj ((show Tryd.prog.funcNamed Rows.encodingRoundTripsRow.func = some 8 by kernel_rfl).symm.trans hf) |>.symm
      obtain rfl : fn = Tryd.f8 := (Option.some.inj (Tryd.func8.symm.trans hfn)).symm
      exact ⟨by kernel_rfl, fun j t ht => by
        rw [Tryd.params8] at ht
        have hm : t ∈ [22] := by simpa using Array.mem_of_getElem? ht
        have hall : ([22].all fun u => !Tryd.prog.wantsStandIn u) = true := by kernel_rfl
        exact (show Tryd.prog.wantsStandIn t = false by simpa using List.all_eq_true.1 hall t hm)⟩)
    (by kernel_rfl)
end Go.Proofs.Qxb6500715aDoor
