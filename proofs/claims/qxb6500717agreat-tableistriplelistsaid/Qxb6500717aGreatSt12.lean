/-
  The model's Step: the marks.
-/
import Derived.Test.Qxb6500717aGreatSt9
namespace Go.Proofs.Qxb6500717aGreat
open Go.RowKit Go.Maps
set_option linter.unusedSimpArgs false
set_option linter.unusedVariables false
set_option maxRecDepth 20000
set_option maxHeartbeats 4000000

theorem law3 : Keyed Tryz.prog 3 := int_keyed Tryz.underlying3
theorem zero3 (w : World) : (zeroValue 3).run Tryz.prog w = .ok (.int .i64 (0)) w := by kernel_rfl
theorem wf64 {a : Int} (h : -9223372036854775808 ≤ a ∧ a ≤ 9223372036854775807) : (Lit.int .i64 a).wf = true := WalkArith.wf_i64 h
theorem key64 {a : Int} (h : -9223372036854775808 ≤ a ∧ a ≤ 9223372036854775807) : keyOf Tryz.prog 3 (.int .i64 (a)) = some (.int .i64 a) := keyOf_int_mk Tryz.underlying3 (wf64 h)
theorem own_of {H : Type} {w w' : World} {P : Program} {k : TypeId} {R : Value → Option (DataW H × List MemPlace)} {b n : Nat} {D : DataW H} (h : w.ownsMap P k R b n D) (hb : w'.heap[b]? = w.heap[b]?) : w'.ownsMap P k R b n D := by
  obtain ⟨es, clock, hb', F, hs, hD⟩ := h
  exact ⟨es, clock, hb.trans hb', F, hs, hD⟩
section
variable {w w1 : World} {lab : Nat → Nat} {v : Value} {k ms mn : Nat} {mf : Int → Option Int}
theorem MkV.look (h : MkV w lab v k ms mf mn) (hb : Below w.heap.size w w1) {a : Int} (ha : -9223372036854775808 ≤ a ∧ a ≤ 9223372036854775807) : (Instr.lookup 30 v (.int .i64 (a)) true).run Tryz.prog w1 = .ok (.tuple #[.int .i64 ((mf a).getD 0), .bool (mf a).isSome]) w1 := by
  rcases h with ⟨rfl, -, rfl, -⟩ | ⟨b, n, D, rfl, h2, h3, h4, h5, h6, h7⟩
  · have := Maps.look_nil (w := w1) true law3 Tryz.underlying30 (zero3 w1) (key64 ha)
    simpa using this
  · have h4' := own_of h4 (hb.block b h4.lt)
    obtain ⟨v, ps, hrun, hv⟩ := h4'.look_ok law3 Tryz.underlying30 (zero3 w1) (plainElem_int Tryz.underlying3 (wf64 (by omega))) (key64 ha)
    obtain ⟨c, rfl, hc, -⟩ := plainElem_int_inv Tryz.underlying3 hv
    have hc1 := congrArg Prod.fst hc
    simp only at hc1
    rw [hrun, h5 a]
    cases hm : mf a with
    | none =>
      have h0 := atKey_of_not_has (D := D) (k := .int .i64 a) (by rw [h5 a, hm]; rfl) (.lit (.int .i64 0))
      rw [h0] at hc1
      simp at hc1
      simp [← hc1]
    | some x =>
      rw [h6 a x hm] at hc1
      simp at hc1
      simp [hc1]
theorem MkV.len (h : MkV w lab v k ms mf mn) (hb : Below w.heap.size w w1) (ty : TypeId) : (Builtin.len_ #[30] ty #[v]).run Tryz.prog w1 = .ok (.int .i64 (mn)) w1 := by
  rcases h with ⟨rfl, -, -, rfl⟩ | ⟨b, n, D, rfl, h2, h3, h4, h5, h6, rfl⟩
  · exact Maps.len_nil (k := 3) (e := 3) Tryz.underlying30 ty
  · exact (own_of h4 (hb.block b h4.lt)).len Tryz.underlying30 ty
theorem MkV.made {b : Nat} (hl : lab b = 33) (h : w.heap[b]? = some (.map #[] 0)) : MkV w lab (.map (some b)) k ms (fun _ => none) 0 := by
  refine Or.inr ⟨b, 0, .map [], rfl, hl, Nat.zero_le _, ?_, fun i => rfl, fun i x hx => (by cases hx), rfl⟩
  have := World.ownsMap_made (H := Unit) { heap := #[], tape := w.tape, drawn := w.drawn, os := w.os, output := w.output } Tryz.prog 3 (plainElem Tryz.prog 3)
  obtain ⟨es, clock, hb', F, hs, hD⟩ := this
  have e : (some (Obj.map es clock)) = some (.map #[] 0) := by rw [← hb']; simp [World.alloc]
  simp only [Option.some.injEq, Obj.map.injEq] at e
  obtain ⟨rfl, rfl⟩ := e
  exact ⟨_, _, h, F, hs, hD⟩
def updM (f : Int → Option Int) (a x : Int) (i : Int) : Option Int := if i = a then some x else f i
theorem lit_ne {a b : Int} (h : a ≠ b) : (Lit.int .i64 a) ≠ .int .i64 b := fun e => h (by simpa using e)
theorem mk_put {D : DataW Unit} (hT : Tidy D) (h5 : ∀ i, Maps.has D (.int .i64 i) = (mf i).isSome) (h6 : ∀ i x, mf i = some x → D.atKey (.int .i64 i) (.lit (.int .i64 0)) = .lit (.int .i64 x)) (h7 : Maps.size D = mn) (a x : Int) :
    (∀ i, Maps.has (D.put (.int .i64 a) (.lit (.int .i64 x))) (.int .i64 i) = (updM mf a x i).isSome) ∧ (∀ i y, updM mf a x i = some y → (D.put (.int .i64 a) (.lit (.int .i64 x))).atKey (.int .i64 i) (.lit (.int .i64 0)) = .lit (.int .i64 y)) ∧ Maps.size (D.put (.int .i64 a) (.lit (.int .i64 x))) = if (mf a).isSome then mn else mn + 1 := by
  refine ⟨fun i => ?_, fun i y hy => ?_, ?_⟩
  · unfold updM
    by_cases h : i = a
    · subst h; rw [if_pos rfl]; exact has_put_same hT.isMap (by simp [WideAt.IsKeyLit]) _
    · rw [if_neg h, has_put_other (lit_ne h)]; exact h5 i
  · unfold updM at hy
    by_cases h : i = a
    · subst h
      rw [if_pos rfl] at hy
      rw [atKey_put_same hT.isMap (by simp [WideAt.IsKeyLit])]
      simpa using hy
    · rw [if_neg h] at hy
      rw [atKey_put_other (lit_ne h)]
      exact h6 i y hy
  · rw [size_put hT, h5 a, h7]
end
theorem st_mcount (A B C D : Int) (ao : Option Addr) (n cap : Nat) (lab : Nat → Nat) (m k : Nat) (M : ModS) (w : World) (h : ModX w lab m k M) (hA : -9223372036854775808 ≤ A ∧ A ≤ 9223372036854775807) (hB : -9223372036854775808 ≤ B ∧ B ≤ 9223372036854775807) (hk9 : k ≤ 900000) : Calls Tryz.prog 8 #[.pointer (some ⟨m, 0, none⟩), .agg #[.int .i64 (22), .int .i64 (A), .int .i64 (B), .int .i64 (C), .int .i64 (D), .slice ao n cap]] w (stPost lab m k (((0, [(M.mn : Int)]), M)) w) := by
  have HH := hid h
  obtain ⟨V, hO, h8, h9, h7, h10⟩ := h.opens
  have HO := hid hO
  have H8 := hid h8
  have H9 := hid h9
  have H7 := hid h7
  have H10 := hid h10
  have M0 := hO w (Below.rf _)
  have c9 := M0.cv 9 (by omega) (by omega)
  have c10 := M0.cv 10 (by omega) (by omega)
  simp only at c9 c10
  rw [h9] at c9
  have bk := h.bk
  have f9 := M0.fz 9 (by omega)
  have f10 := M0.fz 10 (by omega)
  have CV := hid M0.cv
  have FZ := hid M0.fz
  have lt := M0.rd.lt
  have LM := hid h.lm
  clear h hO h8 h9 h7 h10 M0
  obtain ⟨vm, hvm⟩ : ∃ v, V 10 = v := ⟨_, rfl⟩
  have LN := hid (fun w1 (hB : Below w.heap.size w w1) => H10.out.len hB)
  rw [hvm] at c10 LN
  have e1 := LN.out (((w.alloc (.cells #[.int .i64 (22), .int .i64 (A), .int .i64 (B), .int .i64 (C), .int .i64 (D), .slice ao n cap] 36)).alloc (.cells #[.int .u8 0, .slice none 0 0] 39))) (by (repeat (first | with_reducible exact Below.rf _ | with_reducible exact World.below_ext _ _ | with_reducible refine Below.ex ?_ _ | with_reducible refine Below.al ?_ _ | with_reducible refine Below.setCell ?_ (by simp) _ | with_reducible refine Below.drew ?_)))
  clear hvm
  go_enter Tryz.func8, Tryz.ntmps8
  go_wp2_with (go_at_call 43; refine (mok_any _ ⟨_, _, _, rfl⟩ _).mono ?_; rintro e w' ⟨rfl, z9, rfl⟩)
  refine bodyPost_ret (v := .agg #[.int .u8 0, .slice (some ⟨w.heap.size + 1 + 1, 0, none⟩) 1 1]) (by simp [results, Tryz.results8, go_sem, ↓IntWalk.iteOmega, *]) rfl ?_
  exact st_fin HH.out H8.out H9.out H7.out H10.out (by (repeat (first | with_reducible exact Below.rf _ | with_reducible exact World.below_ext _ _ | with_reducible refine Below.ex ?_ _ | with_reducible refine Below.al ?_ _ | with_reducible refine Below.setCell ?_ (by simp) _ | with_reducible refine Below.drew ?_))) (by simp <;> omega) (HO.out _ (by (repeat (first | with_reducible exact Below.rf _ | with_reducible exact World.below_ext _ _ | with_reducible refine Below.ex ?_ _ | with_reducible refine Below.al ?_ _ | with_reducible refine Below.setCell ?_ (by simp) _ | with_reducible refine Below.drew ?_)))) (KeptBut.refl _ _) (KeptBut.refl _ _) HH.out.ft (IntsAt.one (by first | omega | (simp <;> omega)) (by simp <;> omega) (by simp [go_sem, ↓IntWalk.iteOmega]))
theorem st_look (A B C D : Int) (ao : Option Addr) (n cap : Nat) (lab : Nat → Nat) (m k : Nat) (M : ModS) (w : World) (h : ModX w lab m k M) (hA : -9223372036854775808 ≤ A ∧ A ≤ 9223372036854775807) (hB : -9223372036854775808 ≤ B ∧ B ≤ 9223372036854775807) (hk9 : k ≤ 900000) : Calls Tryz.prog 8 #[.pointer (some ⟨m, 0, none⟩), .agg #[.int .i64 (21), .int .i64 (A), .int .i64 (B), .int .i64 (C), .int .i64 (D), .slice ao n cap]] w (stPost lab m k ((((if (M.mf A).isSome then 0 else 9), (match M.mf A with | some x => [x] | none => [])), M)) w) := by
  have HH := hid h
  obtain ⟨V, hO, h8, h9, h7, h10⟩ := h.opens
  have HO := hid hO
  have H8 := hid h8
  have H9 := hid h9
  have H7 := hid h7
  have H10 := hid h10
  have M0 := hO w (Below.rf _)
  have c9 := M0.cv 9 (by omega) (by omega)
  have c10 := M0.cv 10 (by omega) (by omega)
  simp only at c9 c10
  rw [h9] at c9
  have bk := h.bk
  have f9 := M0.fz 9 (by omega)
  have f10 := M0.fz 10 (by omega)
  have CV := hid M0.cv
  have FZ := hid M0.fz
  have lt := M0.rd.lt
  have LM := hid h.lm
  clear h hO h8 h9 h7 h10 M0
  obtain ⟨vm, hvm⟩ : ∃ v, V 10 = v := ⟨_, rfl⟩
  have LN := hid (fun w1 (hB : Below w.heap.size w w1) => H10.out.look hB hA)
  rw [hvm] at c10 LN
  have e1 := fun z => LN.out (World.ext (((w.alloc (.cells #[.int .i64 (21), .int .i64 (A), .int .i64 (B), .int .i64 (C), .int .i64 (D), .slice ao n cap] 36)).alloc (.cells #[.int .u8 0, .slice none 0 0] 39))) z) (by (repeat (first | with_reducible exact Below.rf _ | with_reducible exact World.below_ext _ _ | with_reducible refine Below.ex ?_ _ | with_reducible refine Below.al ?_ _ | with_reducible refine Below.setCell ?_ (by simp) _ | with_reducible refine Below.drew ?_)))
  have e2 := LN.out (((w.alloc (.cells #[.int .i64 (21), .int .i64 (A), .int .i64 (B), .int .i64 (C), .int .i64 (D), .slice ao n cap] 36)).alloc (.cells #[.int .u8 0, .slice none 0 0] 39))) (by (repeat (first | with_reducible exact Below.rf _ | with_reducible exact World.below_ext _ _ | with_reducible refine Below.ex ?_ _ | with_reducible refine Below.al ?_ _ | with_reducible refine Below.setCell ?_ (by simp) _ | with_reducible refine Below.drew ?_)))
  clear hvm
  cases hm : M.mf A with
  | some x =>
    simp only [hm] at e1 e2
    simp only [Option.getD_some, Option.isSome_some] at e1 e2
    simp only [Option.isSome_some, if_true]
    clear hm
    go_enter Tryz.func8, Tryz.ntmps8
    go_wp2
    first | with_reducible refine wp_region_ext2 (by kernel_rfl) (by kernel_rfl) ?_ | refine wp_region_ext (by kernel_rfl) (by kernel_rfl) ?_
    repeat (go_big_quiet_step (fail))
    refine wpQuiet_nil ?_
    rintro _ ⟨z, rfl⟩
    go_wp2_with (go_at_call 43; refine (mok_any _ ⟨_, _, _, rfl⟩ _).mono ?_; rintro e w' ⟨rfl, z9, rfl⟩)
    refine bodyPost_ret (v := .agg #[.int .u8 0, .slice (some ⟨w.heap.size + 1 + 1 + z.heap.size, 0, none⟩) 1 1]) (by simp [results, Tryz.results8, go_sem, ↓IntWalk.iteOmega, *]) rfl ?_
    exact st_fin HH.out H8.out H9.out H7.out H10.out (by (repeat (first | with_reducible exact Below.rf _ | with_reducible exact World.below_ext _ _ | with_reducible refine Below.ex ?_ _ | with_reducible refine Below.al ?_ _ | with_reducible refine Below.setCell ?_ (by simp) _ | with_reducible refine Below.drew ?_))) (by simp <;> omega) (HO.out _ (by (repeat (first | with_reducible exact Below.rf _ | with_reducible exact World.below_ext _ _ | with_reducible refine Below.ex ?_ _ | with_reducible refine Below.al ?_ _ | with_reducible refine Below.setCell ?_ (by simp) _ | with_reducible refine Below.drew ?_)))) (KeptBut.refl _ _) (KeptBut.refl _ _) HH.out.ft (IntsAt.one (by first | omega | (simp <;> omega)) (by simp <;> omega) (by simp [go_sem, ↓IntWalk.iteOmega]))
  | none =>
    simp only [hm] at e1 e2
    simp only [Option.getD_none, Option.isSome_none] at e1 e2
    simp only [Option.isSome_none, Bool.false_eq_true, if_false]
    clear hm
    go_enter Tryz.func8, Tryz.ntmps8
    go_wp2
    first | with_reducible refine wp_region_ext2 (by kernel_rfl) (by kernel_rfl) ?_ | refine wp_region_ext (by kernel_rfl) (by kernel_rfl) ?_
    repeat (go_big_quiet_step (fail))
    refine wpQuiet_nil ?_
    rintro _ ⟨z, rfl⟩
    go_wp2
    refine bodyPost_ret (v := .agg #[.int .u8 9, .slice none 0 0]) (by simp [results, Tryz.results8, go_sem, ↓IntWalk.iteOmega, *]) rfl ?_
    exact st_fin HH.out H8.out H9.out H7.out H10.out (by (repeat (first | with_reducible exact Below.rf _ | with_reducible exact World.below_ext _ _ | with_reducible refine Below.ex ?_ _ | with_reducible refine Below.al ?_ _ | with_reducible refine Below.setCell ?_ (by simp) _ | with_reducible refine Below.drew ?_))) (by simp <;> omega) (HO.out _ (by (repeat (first | with_reducible exact Below.rf _ | with_reducible exact World.below_ext _ _ | with_reducible refine Below.ex ?_ _ | with_reducible refine Below.al ?_ _ | with_reducible refine Below.setCell ?_ (by simp) _ | with_reducible refine Below.drew ?_)))) (KeptBut.refl _ _) (KeptBut.refl _ _) HH.out.ft (IntsAt.nil _ _)
end Go.Proofs.Qxb6500717aGreat
