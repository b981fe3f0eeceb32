/-
  The model's Step: the marks are written.
-/
import Derived.Test.Qxb6500717aGreatSt12
namespace Go.Proofs.Qxb6500717aGreat
open Go.RowKit Go.Maps
set_option linter.unusedSimpArgs false
set_option linter.unusedVariables false
set_option maxRecDepth 20000
set_option maxHeartbeats 4000000

theorem _root_.Go.KeptBut.of_grown {w w' : World} {b : Nat} (h : w.grownBy w' (some b)) : KeptBut b w w' := ⟨h.os, h.tape, h.output, h.size, fun j hj hn => h.block j hj (fun e => hn (by simpa using e))⟩
theorem map_top {X w6 : World} {g : Nat} (hg : X.heap.size = g) (hb : Below (g + 1) (X.alloc (.map #[] 0)) w6) : w6.heap[g]? = some (.map #[] 0) := by
  rw [hb.block g (by omega)]
  subst hg
  exact (MapKept.heap_alloc X _).1
theorem st_mclear (A B C D : Int) (ao : Option Addr) (n cap : Nat) (lab : Nat → Nat) (m k : Nat) (M : ModS) (w : World) (h : ModX w lab m k M) (hA : -9223372036854775808 ≤ A ∧ A ≤ 9223372036854775807) (hB : -9223372036854775808 ≤ B ∧ B ≤ 9223372036854775807) (hk9 : k ≤ 900000) : Calls Tryz.prog 8 #[.pointer (some ⟨m, 0, none⟩), .agg #[.int .i64 (23), .int .i64 (A), .int .i64 (B), .int .i64 (C), .int .i64 (D), .slice ao n cap]] w (stPost lab m k (((0, []), { M with mf := fun _ => none, mn := 0 })) w) := by
  have HH := hid h
  obtain ⟨V, hO, h8, h9, h7, h10⟩ := h.opens
  have HO := hid hO
  have H8 := hid h8
  have H9 := hid h9
  have H7 := hid h7
  have H10 := hid h10
  have M0 := hO w (Below.rf _)
  have c9 := M0.cv 9 (by omega) (by omega)
  have c10 := M0.cv 10 (by omega) (by omega)
  simp only at c9 c10
  rw [h9] at c9
  have bk := h.bk
  have f9 := M0.fz 9 (by omega)
  have f10 := M0.fz 10 (by omega)
  have CV := hid M0.cv
  have FZ := hid M0.fz
  have lt := M0.rd.lt
  have LM := hid h.lm
  clear h hO h8 h9 h7 h10 M0
  have hmm := @run_makeMap Tryz.prog
  go_enter Tryz.func8, Tryz.ntmps8
  go_wp2_with (go_at_call 43; refine (mok_any _ ⟨_, _, _, rfl⟩ _).mono ?_; rintro e w' ⟨rfl, z9, rfl⟩)
  refine bodyPost_ret (v := .agg #[.int .u8 0, .slice none 0 0]) (by simp [results, Tryz.results8, go_sem, ↓IntWalk.iteOmega, *]) rfl ?_
  have K6 : KeptBut m w ((((((w.setCell ⟨m, 10, none⟩ (.map (some (w.heap.size + 1 + 1)))).alloc (.cells #[.int .i64 (23), .int .i64 (A), .int .i64 (B), .int .i64 (C), .int .i64 (D), .slice ao n cap] 36)).alloc (.cells #[.int .u8 0, .slice none 0 0] 39)).alloc (.map #[] 0)).ext z9)) := by (repeat (first | with_reducible exact KeptBut.refl _ _ | with_reducible refine KeptBut.ex ?_ _ | with_reducible refine KeptBut.al ?_ _ | with_reducible refine KeptBut.set' ?_ _ _))
  refine st_fin3 (V' := fun q => if q = 10 then .map (some (w.heap.size + 1 + 1)) else V q) (lab' := relab2 lab w.heap.size (World.heap _).size (w.heap.size + 1 + 1) 33) HH.out rfl (KeptL.of_but K6 (Or.inl LM.out)) (fun q hq => ?_) (fun q h1 h2 => ?_) (fun q hq => ?_) (fun j hj => relab2_old hj) (fun j hj => relab2_top K6.size hj) (fun j hj => relab2_new hj (by omega)) ?_ ?_ ?_ ?_ ?_ (IntsAt.nil _ _)
  · simp [go_sem, ↓IntWalk.iteOmega]
  · rcases (by omega : q = 7 ∨ q = 8 ∨ q = 9 ∨ q = 10) with rfl | rfl | rfl | rfl
    · simp [go_sem, ↓IntWalk.iteOmega]
      exact CV.out 7 (by omega) (by omega)
    · simp [go_sem, ↓IntWalk.iteOmega]
      exact CV.out 8 (by omega) (by omega)
    · simp [go_sem, ↓IntWalk.iteOmega, *]
      try exact H9.out.symm
    · simp [go_sem, ↓IntWalk.iteOmega, *]
  · simp [go_sem, ↓IntWalk.iteOmega]
    exact FZ.out q hq
  · simpa using H8.out
  · simpa using H9.out
  · (exact H7.out.of K6.size (fun j hj hl => (relab2_old hj).trans hl) (fun j hj hl => K6.block j hj (fun e => by subst e; rw [LM.out] at hl; omega)))
  · (refine MkV.made (relab2_g (by omega) (by simp <;> omega)) (map_top (by simp) (Below.mono (B := (World.heap _).size) (World.below_ext _ z9) (by simp))))
  · simp
    omega
def ModS.minit (M : ModS) (A : Int) : Int × ModS := if 0 ≤ A ∧ A ≤ 4096 then (0, { M with ms := A.toNat, mf := fun _ => none, mn := 0 }) else (2, M)
theorem st_minit (A B C D : Int) (ao : Option Addr) (n cap : Nat) (lab : Nat → Nat) (m k : Nat) (M : ModS) (w : World) (h : ModX w lab m k M) (hA : -9223372036854775808 ≤ A ∧ A ≤ 9223372036854775807) (hB : -9223372036854775808 ≤ B ∧ B ≤ 9223372036854775807) (hk9 : k ≤ 900000) : Calls Tryz.prog 8 #[.pointer (some ⟨m, 0, none⟩), .agg #[.int .i64 (19), .int .i64 (A), .int .i64 (B), .int .i64 (C), .int .i64 (D), .slice ao n cap]] w (stPost lab m k ((((M.minit A).1, []), (M.minit A).2)) w) := by
  have HH := hid h
  obtain ⟨V, hO, h8, h9, h7, h10⟩ := h.opens
  have HO := hid hO
  have H8 := hid h8
  have H9 := hid h9
  have H7 := hid h7
  have H10 := hid h10
  have M0 := hO w (Below.rf _)
  have c9 := M0.cv 9 (by omega) (by omega)
  have c10 := M0.cv 10 (by omega) (by omega)
  simp only at c9 c10
  rw [h9] at c9
  have bk := h.bk
  have f9 := M0.fz 9 (by omega)
  have f10 := M0.fz 10 (by omega)
  have CV := hid M0.cv
  have FZ := hid M0.fz
  have lt := M0.rd.lt
  have LM := hid h.lm
  clear h hO h8 h9 h7 h10 M0
  have hmm := @run_makeMap Tryz.prog
  by_cases a1 : A < 0
  · rw [show M.minit A = (2, M) from if_neg (by omega)]
    go_enter Tryz.func8, Tryz.ntmps8
    go_wp2
    refine bodyPost_ret (v := .agg #[.int .u8 2, .slice none 0 0]) (by simp [results, Tryz.results8, go_sem, ↓IntWalk.iteOmega, *]) rfl ?_
    exact st_fin HH.out H8.out H9.out H7.out H10.out (by (repeat (first | with_reducible exact Below.rf _ | with_reducible exact World.below_ext _ _ | with_reducible refine Below.ex ?_ _ | with_reducible refine Below.al ?_ _ | with_reducible refine Below.setCell ?_ (by simp) _ | with_reducible refine Below.drew ?_))) (by simp <;> omega) (HO.out _ (by (repeat (first | with_reducible exact Below.rf _ | with_reducible exact World.below_ext _ _ | with_reducible refine Below.ex ?_ _ | with_reducible refine Below.al ?_ _ | with_reducible refine Below.setCell ?_ (by simp) _ | with_reducible refine Below.drew ?_)))) (KeptBut.refl _ _) (KeptBut.refl _ _) HH.out.ft (IntsAt.nil _ _)
  by_cases a2 : 4096 < A
  · rw [show M.minit A = (2, M) from if_neg (by omega)]
    go_enter Tryz.func8, Tryz.ntmps8
    go_wp2
    refine bodyPost_ret (v := .agg #[.int .u8 2, .slice none 0 0]) (by simp [results, Tryz.results8, go_sem, ↓IntWalk.iteOmega, *]) rfl ?_
    exact st_fin HH.out H8.out H9.out H7.out H10.out (by (repeat (first | with_reducible exact Below.rf _ | with_reducible exact World.below_ext _ _ | with_reducible refine Below.ex ?_ _ | with_reducible refine Below.al ?_ _ | with_reducible refine Below.setCell ?_ (by simp) _ | with_reducible refine Below.drew ?_))) (by simp <;> omega) (HO.out _ (by (repeat (first | with_reducible exact Below.rf _ | with_reducible exact World.below_ext _ _ | with_reducible refine Below.ex ?_ _ | with_reducible refine Below.al ?_ _ | with_reducible refine Below.setCell ?_ (by simp) _ | with_reducible refine Below.drew ?_)))) (KeptBut.refl _ _) (KeptBut.refl _ _) HH.out.ft (IntsAt.nil _ _)
  obtain ⟨a, rfl⟩ := Int.eq_ofNat_of_zero_le (show 0 ≤ A by omega)
  rw [show M.minit a = (0, { M with ms := a, mf := fun _ => none, mn := 0 }) from if_pos (by omega)]
  go_enter Tryz.func8, Tryz.ntmps8
  go_wp2_with (go_at_call 43; refine (mok_any _ ⟨_, _, _, rfl⟩ _).mono ?_; rintro e w' ⟨rfl, z9, rfl⟩)
  refine bodyPost_ret (v := .agg #[.int .u8 0, .slice none 0 0]) (by simp [results, Tryz.results8, go_sem, ↓IntWalk.iteOmega, *]) rfl ?_
  have K6 : KeptBut m w (((((((w.setCell ⟨m, 9, none⟩ (.int .i64 (a))).setCell ⟨m, 10, none⟩ (.map (some (w.heap.size + 1 + 1)))).alloc (.cells #[.int .i64 (19), .int .i64 (a), .int .i64 (B), .int .i64 (C), .int .i64 (D), .slice ao n cap] 36)).alloc (.cells #[.int .u8 0, .slice none 0 0] 39)).alloc (.map #[] 0)).ext z9)) := by (repeat (first | with_reducible exact KeptBut.refl _ _ | with_reducible refine KeptBut.ex ?_ _ | with_reducible refine KeptBut.al ?_ _ | with_reducible refine KeptBut.set' ?_ _ _))
  refine st_fin3 (V' := fun q => if q = 10 then .map (some (w.heap.size + 1 + 1)) else if q = 9 then .int .i64 (a) else V q) (lab' := relab2 lab w.heap.size (World.heap _).size (w.heap.size + 1 + 1) 33) HH.out rfl (KeptL.of_but K6 (Or.inl LM.out)) (fun q hq => ?_) (fun q h1 h2 => ?_) (fun q hq => ?_) (fun j hj => relab2_old hj) (fun j hj => relab2_top K6.size hj) (fun j hj => relab2_new hj (by omega)) ?_ ?_ ?_ ?_ ?_ (IntsAt.nil _ _)
  · simp [go_sem, ↓IntWalk.iteOmega]
  · rcases (by omega : q = 7 ∨ q = 8 ∨ q = 9 ∨ q = 10) with rfl | rfl | rfl | rfl
    · simp [go_sem, ↓IntWalk.iteOmega]
      exact CV.out 7 (by omega) (by omega)
    · simp [go_sem, ↓IntWalk.iteOmega]
      exact CV.out 8 (by omega) (by omega)
    · simp [go_sem, ↓IntWalk.iteOmega, *]
      try exact H9.out.symm
    · simp [go_sem, ↓IntWalk.iteOmega, *]
  · simp [go_sem, ↓IntWalk.iteOmega]
    exact FZ.out q hq
  · simpa using H8.out
  · simp
  · (exact H7.out.of K6.size (fun j hj hl => (relab2_old hj).trans hl) (fun j hj hl => K6.block j hj (fun e => by subst e; rw [LM.out] at hl; omega)))
  · (refine MkV.made (relab2_g (by omega) (by simp <;> omega)) (map_top (by simp) (Below.mono (B := (World.heap _).size) (World.below_ext _ z9) (by simp))))
  · simp
    omega
def ModS.mark (M : ModS) (A B : Int) : Int × ModS := if 0 ≤ A ∧ A < M.ms then (0, { M with mf := updM M.mf A B, mn := if (M.mf A).isSome then M.mn else M.mn + 1 }) else (2, M)
theorem st_mark (A B C D : Int) (ao : Option Addr) (n cap : Nat) (lab : Nat → Nat) (m k : Nat) (M : ModS) (w : World) (h : ModX w lab m k M) (hA : -9223372036854775808 ≤ A ∧ A ≤ 9223372036854775807) (hB : -9223372036854775808 ≤ B ∧ B ≤ 9223372036854775807) (hk9 : k ≤ 900000) : Calls Tryz.prog 8 #[.pointer (some ⟨m, 0, none⟩), .agg #[.int .i64 (20), .int .i64 (A), .int .i64 (B), .int .i64 (C), .int .i64 (D), .slice ao n cap]] w (stPost lab m k ((((M.mark A B).1, []), (M.mark A B).2)) w) := by
  have HH := hid h
  obtain ⟨V, hO, h8, h9, h7, h10⟩ := h.opens
  have HO := hid hO
  have H8 := hid h8
  have H9 := hid h9
  have H7 := hid h7
  have H10 := hid h10
  have M0 := hO w (Below.rf _)
  have c9 := M0.cv 9 (by omega) (by omega)
  have c10 := M0.cv 10 (by omega) (by omega)
  simp only at c9 c10
  rw [h9] at c9
  have bk := h.bk
  have f9 := M0.fz 9 (by omega)
  have f10 := M0.fz 10 (by omega)
  have CV := hid M0.cv
  have FZ := hid M0.fz
  have lt := M0.rd.lt
  have LM := hid h.lm
  clear h hO h8 h9 h7 h10 M0
  by_cases a1 : A < 0
  · have b1 : decide (A < 0) = true := decide_eq_true a1
    rw [show M.mark A B = (2, M) from if_neg (by omega)]
    go_enter Tryz.func8, Tryz.ntmps8
    go_wp2
    first | with_reducible refine wp_region_ext2 (by kernel_rfl) (by kernel_rfl) ?_ | refine wp_region_ext (by kernel_rfl) (by kernel_rfl) ?_
    repeat (go_big_quiet_step (fail))
    refine wpQuiet_nil ?_
    rintro _ ⟨z, rfl⟩
    go_wp2
    refine bodyPost_ret (v := .agg #[.int .u8 2, .slice none 0 0]) (by simp [results, Tryz.results8, go_sem, ↓IntWalk.iteOmega, *]) rfl ?_
    exact st_fin HH.out H8.out H9.out H7.out H10.out (by (repeat (first | with_reducible exact Below.rf _ | with_reducible exact World.below_ext _ _ | with_reducible refine Below.ex ?_ _ | with_reducible refine Below.al ?_ _ | with_reducible refine Below.setCell ?_ (by simp) _ | with_reducible refine Below.drew ?_))) (by simp <;> omega) (HO.out _ (by (repeat (first | with_reducible exact Below.rf _ | with_reducible exact World.below_ext _ _ | with_reducible refine Below.ex ?_ _ | with_reducible refine Below.al ?_ _ | with_reducible refine Below.setCell ?_ (by simp) _ | with_reducible refine Below.drew ?_)))) (KeptBut.refl _ _) (KeptBut.refl _ _) HH.out.ft (IntsAt.nil _ _)
  by_cases a2 : (M.ms : Int) ≤ A
  · have b1 : decide (A < 0) = false := decide_eq_false a1
    have b2 : decide ((M.ms : Int) ≤ A) = true := decide_eq_true a2
    rw [show M.mark A B = (2, M) from if_neg (by omega)]
    go_enter Tryz.func8, Tryz.ntmps8
    go_wp2
    first | with_reducible refine wp_region_ext2 (by kernel_rfl) (by kernel_rfl) ?_ | refine wp_region_ext (by kernel_rfl) (by kernel_rfl) ?_
    repeat (go_big_quiet_step (fail))
    refine wpQuiet_nil ?_
    rintro _ ⟨z, rfl⟩
    go_wp2
    refine bodyPost_ret (v := .agg #[.int .u8 2, .slice none 0 0]) (by simp [results, Tryz.results8, go_sem, ↓IntWalk.iteOmega, *]) rfl ?_
    exact st_fin HH.out H8.out H9.out H7.out H10.out (by (repeat (first | with_reducible exact Below.rf _ | with_reducible exact World.below_ext _ _ | with_reducible refine Below.ex ?_ _ | with_reducible refine Below.al ?_ _ | with_reducible refine Below.setCell ?_ (by simp) _ | with_reducible refine Below.drew ?_))) (by simp <;> omega) (HO.out _ (by (repeat (first | with_reducible exact Below.rf _ | with_reducible exact World.below_ext _ _ | with_reducible refine Below.ex ?_ _ | with_reducible refine Below.al ?_ _ | with_reducible refine Below.setCell ?_ (by simp) _ | with_reducible refine Below.drew ?_)))) (KeptBut.refl _ _) (KeptBut.refl _ _) HH.out.ft (IntsAt.nil _ _)
  obtain ⟨mn', hmn⟩ : ∃ x, (if (M.mf A).isSome then M.mn else M.mn + 1) = x := ⟨_, rfl⟩
  have hmk : M.mark A B = (0, { M with mf := updM M.mf A B, mn := mn' }) := by rw [← hmn]; exact if_pos (by omega)
  rw [hmk]
  have HMN := hid hmn
  clear hmk hmn
  have b1 : decide (A < 0) = false := decide_eq_false a1
  have b2 : decide ((M.ms : Int) ≤ A) = false := decide_eq_false a2
  obtain ⟨b, nn, D0, hv, hlb, hnn, hown, q5, q6, q7⟩ : ∃ (b n : Nat) (D : DataW Unit), V 10 = .map (some b) ∧ lab b = 33 ∧ n ≤ k ∧ w.ownsMap Tryz.prog 3 (plainElem Tryz.prog 3) b n D ∧ (∀ i, Maps.has D (.int .i64 i) = (M.mf i).isSome) ∧ (∀ i x, M.mf i = some x → D.atKey (.int .i64 i) (.lit (.int .i64 0)) = .lit (.int .i64 x)) ∧ Maps.size D = M.mn := by
    rcases H10.out with ⟨-, h, -⟩ | h
    · omega
    · exact h
  rw [hv] at c10
  have HOWN := hid hown
  have Q5 := hid q5
  have Q6 := hid q6
  have Q7 := hid q7
  have HLB := hid hlb
  have lb := hown.lt
  have hbm : b ≠ m := fun e => by have := LM.out; rw [← e, hlb] at this; omega
  have HBM := hid hbm
  have HV := hid hv
  clear hown q5 q6 q7 hlb hv hbm
  go_enter Tryz.func8, Tryz.ntmps8
  go_wp2
  first | with_reducible refine wp_region_ext2 (by kernel_rfl) (by kernel_rfl) ?_ | refine wp_region_ext (by kernel_rfl) (by kernel_rfl) ?_
  repeat (go_big_quiet_step (fail))
  refine wpQuiet_nil ?_
  rintro _ ⟨z, rfl⟩
  go_wp2
  first | with_reducible refine wp_region_tail_ext2 8 (by kernel_rfl) (by kernel_rfl) ?_ | refine wp_region_tail_ext 8 (by kernel_rfl) (by kernel_rfl) ?_
  simp only [List.take_succ_cons, List.take_zero, List.drop_succ_cons, List.drop_zero]
  repeat (go_big_quiet_step (fail))
  refine wpQuiet_nil ?_
  rintro _ ⟨z, rfl⟩
  refine wpList_mapUpdate_own _ rfl _ _ _ 30 rfl 3 3 law3 Tryz.underlying30 (plainElem (H := Unit) Tryz.prog 3) b nn D0 rfl (own_of HOWN.out (Below.block (B := w.heap.size) (by (repeat (first | with_reducible exact Below.rf _ | with_reducible exact World.below_ext _ _ | with_reducible refine Below.ex ?_ _ | with_reducible refine Below.al ?_ _ | with_reducible refine Below.setCell ?_ (by simp) _ | with_reducible refine Below.drew ?_))) b lb)) (by unfold maxLen; omega) _ _ _ rfl rfl (key64 hA) _ [] (plainElem_int Tryz.underlying3 (wf64 hB)) ?_
  intro w5 hown5 hg5
  have hk5 := KeptBut.of_grown hg5
  have f0 := hk5.cell (k := w.heap.size + 1) 0 (by simp <;> omega) (by omega)
  have f1 := hk5.cell (k := w.heap.size + 1) 1 (by simp <;> omega) (by omega)
  have f2 := hk5.frz (k := w.heap.size + 1) 0 (by simp <;> omega) (by omega)
  have f3 := hk5.frz (k := w.heap.size + 1) 1 (by simp <;> omega) (by omega)
  have dc := fun q => hk5.cell (k := m) q (by simp <;> omega) (Ne.symm HBM.out)
  have df := fun q => hk5.frz (k := m) q (by simp <;> omega) (Ne.symm HBM.out)
  simp [go_sem, ↓IntWalk.iteOmega] at f0 f1 f2 f3 dc df
  have s5 := hk5.size
  simp at s5
  have k5 : KeptL lab (fun x => x = 33) w w5 := (KeptL.of_below (by (repeat (first | with_reducible exact Below.rf _ | with_reducible exact World.below_ext _ _ | with_reducible refine Below.ex ?_ _ | with_reducible refine Below.al ?_ _ | with_reducible refine Below.setCell ?_ (by simp) _ | with_reducible refine Below.drew ?_)))).trans (KeptL.of_but hk5 HLB.out)
  have HK5 := hid k5
  have HO5 := hid hown5
  have DC := hid dc
  have DF := hid df
  clear hown5 hg5 hk5 dc df k5
  go_wp2_with (go_at_call 43; refine (mok_any _ ⟨_, _, _, rfl⟩ _).mono ?_; rintro e w' ⟨rfl, z9, rfl⟩)
  refine bodyPost_ret (v := .agg #[.int .u8 0, .slice none 0 0]) (by simp [results, Tryz.results8, go_sem, ↓IntWalk.iteOmega, *]) rfl ?_
  have K6 := (((HK5.out.setF (b := w.heap.size + 1) (i := 0) (by omega) (.int .u8 0)).setF (b := w.heap.size + 1) (i := 1) (by omega) (.slice none 0 0)).ex z9)
  obtain ⟨r1, r2, r3⟩ := mk_put (HOWN.out.tidy law3) Q5.out Q6.out Q7.out A B
  refine st_fin3 (V' := V) (lab' := relab2 lab w.heap.size (World.heap _).size 0 33) HH.out rfl (K6.mono (fun x hx => Or.inr (Or.inr hx))) (fun q hq => ?_) (fun q h1 h2 => ?_) (fun q hq => ?_) (fun j hj => relab2_old hj) (fun j hj => relab2_top K6.size hj) (fun j hj => relab2_new hj (by omega)) H8.out H9.out ?_ ?_ ?_ (IntsAt.nil _ _)
  · simp [go_sem, ↓IntWalk.iteOmega]
    exact DC.out q
  · simp [go_sem, ↓IntWalk.iteOmega]
    exact (DC.out q).trans (CV.out q h1 h2)
  · simp [go_sem, ↓IntWalk.iteOmega]
    exact (DF.out q).trans (FZ.out q hq)
  · exact H7.out.of K6.size (fun j hj hl => (relab2_old hj).trans hl) (fun j hj hl => K6.block j hj (by omega))
  · refine Or.inr ⟨b, nn + 1, _, HV.out, (relab2_old lb).trans HLB.out, by omega, own_of HO5.out ?_, r1, r2, r3.trans HMN.out⟩
    refine Below.block (B := w.heap.size) ?_ b lb
    refine Below.ext ?_ (by simp <;> omega) _
    exact Below.setCell (Below.setCell (Below.refl _ _) (Nat.le_succ _) _) (Nat.le_succ _) _
  · simp
    omega
end Go.Proofs.Qxb6500717aGreat
