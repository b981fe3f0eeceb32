/-
  The model's Step: the heap's length, reset, pop, peek.
-/
import Derived.Test.Qxb6500717aGreatSt9
import Derived.Test.Qxb6500717aGreatClo
namespace Go.Proofs.Qxb6500717aGreat
open Go.RowKit
set_option linter.unusedSimpArgs false
set_option linter.unusedVariables false
set_option maxRecDepth 20000
set_option maxHeartbeats 4000000

theorem st_hlen (A B C D : Int) (ao : Option Addr) (n cap : Nat) (lab : Nat → Nat) (m k : Nat) (M : ModS) (w : World) (h : ModX w lab m k M) (hk9 : k ≤ 900000) : Calls Tryz.prog 8 #[.pointer (some ⟨m, 0, none⟩), .agg #[.int .i64 (17), .int .i64 (A), .int .i64 (B), .int .i64 (C), .int .i64 (D), .slice ao n cap]] w (stPost lab m k (((0, [(M.H.length : Int)]), M)) w) := by
  have HH := hid h
  obtain ⟨V, hO, h8, h9, h7, h10⟩ := h.opens
  have HO := hid hO
  have H8 := hid h8
  have H9 := hid h9
  have H10 := hid h10
  have M0 := hO w (Below.rf _)
  have c7 := M0.cv 7 (by omega) (by omega)
  have c8 := M0.cv 8 (by omega) (by omega)
  simp only at c7 c8
  rw [h8] at c8
  have H7 := hid h7
  obtain ⟨ao7, cap7, e7, h5, h6⟩ := h7
  rw [e7] at c7
  have H6 := hid h6
  have E7 := hid e7
  have bk := h.bk
  have f7 := M0.fz 7 (by omega)
  have f8 := M0.fz 8 (by omega)
  have CV := hid M0.cv
  have FZ := hid M0.fz
  have lt := M0.rd.lt
  have LM := hid h.lm
  clear h hO h8 h9 h10 M0 h6 e7
  go_enter Tryz.func8, Tryz.ntmps8
  go_wp2_with (go_at_call 43; refine (mok_any _ ⟨_, _, _, rfl⟩ _).mono ?_; rintro e w' ⟨rfl, z9, rfl⟩)
  refine bodyPost_ret (v := .agg #[.int .u8 0, .slice (some ⟨w.heap.size + 1 + 1, 0, none⟩) 1 1]) (by simp [results, Tryz.results8, go_sem, ↓IntWalk.iteOmega, *]) rfl ?_
  exact st_fin HH.out H8.out H9.out H7.out H10.out (by (repeat (first | with_reducible exact Below.rf _ | with_reducible exact World.below_ext _ _ | with_reducible refine Below.ex ?_ _ | with_reducible refine Below.al ?_ _ | with_reducible refine Below.setCell ?_ (by simp) _ | with_reducible refine Below.drew ?_))) (by simp <;> omega) (HO.out _ (by (repeat (first | with_reducible exact Below.rf _ | with_reducible exact World.below_ext _ _ | with_reducible refine Below.ex ?_ _ | with_reducible refine Below.al ?_ _ | with_reducible refine Below.setCell ?_ (by simp) _ | with_reducible refine Below.drew ?_)))) (KeptBut.refl _ _) (KeptBut.refl _ _) HH.out.ft (IntsAt.one (by first | omega | (simp <;> omega)) (by simp <;> omega) (by simp [go_sem, ↓IntWalk.iteOmega]))
theorem st_hreset (A B C D : Int) (ao : Option Addr) (n cap : Nat) (lab : Nat → Nat) (m k : Nat) (M : ModS) (w : World) (h : ModX w lab m k M) (hk9 : k ≤ 900000) : Calls Tryz.prog 8 #[.pointer (some ⟨m, 0, none⟩), .agg #[.int .i64 (18), .int .i64 (A), .int .i64 (B), .int .i64 (C), .int .i64 (D), .slice ao n cap]] w (stPost lab m k (((0, []), { M with H := [], px := 0 })) w) := by
  have HH := hid h
  obtain ⟨V, hO, h8, h9, h7, h10⟩ := h.opens
  have HO := hid hO
  have H8 := hid h8
  have H9 := hid h9
  have H10 := hid h10
  have M0 := hO w (Below.rf _)
  have c7 := M0.cv 7 (by omega) (by omega)
  have c8 := M0.cv 8 (by omega) (by omega)
  simp only at c7 c8
  rw [h8] at c8
  have H7 := hid h7
  obtain ⟨ao7, cap7, e7, h5, h6⟩ := h7
  rw [e7] at c7
  have H6 := hid h6
  have E7 := hid e7
  have bk := h.bk
  have f7 := M0.fz 7 (by omega)
  have f8 := M0.fz 8 (by omega)
  have CV := hid M0.cv
  have FZ := hid M0.fz
  have lt := M0.rd.lt
  have LM := hid h.lm
  clear h hO h8 h9 h10 M0 h6 e7
  go_enter Tryz.func8, Tryz.ntmps8
  go_wp2_with (go_at_call 43; refine (mok_any _ ⟨_, _, _, rfl⟩ _).mono ?_; rintro e w' ⟨rfl, z9, rfl⟩)
  refine bodyPost_ret (v := .agg #[.int .u8 0, .slice none 0 0]) (by simp [results, Tryz.results8, go_sem, ↓IntWalk.iteOmega, *]) rfl ?_
  have K6 : KeptBut m w (((((w.setCell ⟨m, 7, none⟩ (.slice none 0 0)).setCell ⟨m, 8, none⟩ (.int .i64 (0))).alloc (.cells #[.int .i64 (18), .int .i64 (A), .int .i64 (B), .int .i64 (C), .int .i64 (D), .slice ao n cap] 36)).alloc (.cells #[.int .u8 0, .slice none 0 0] 39)).ext z9) := by (repeat (first | with_reducible exact KeptBut.refl _ _ | with_reducible refine KeptBut.ex ?_ _ | with_reducible refine KeptBut.al ?_ _ | with_reducible refine KeptBut.set' ?_ _ _))
  refine st_fin3 (V' := fun i => if i = 7 then .slice none 0 0 else if i = 8 then .int .i64 (0) else V i) (lab' := relab2 lab w.heap.size (World.heap _).size 0 32) HH.out rfl (KeptL.of_but K6 (Or.inl LM.out)) (fun i hi => ?_) (fun i h1 h2 => ?_) (fun i hi => ?_) (fun j hj => relab2_old hj) (fun j hj => relab2_top K6.size hj) (fun j hj => relab2_new hj (by omega)) ?_ ?_ ?_ ?_ ?_ (IntsAt.nil _ _)
  · simp [go_sem, ↓IntWalk.iteOmega]
  · rcases (by omega : i = 7 ∨ i = 8 ∨ i = 9 ∨ i = 10) with rfl | rfl | rfl | rfl
    · simp [go_sem, ↓IntWalk.iteOmega, *]
    · simp [go_sem, ↓IntWalk.iteOmega, *]
    · simp [go_sem, ↓IntWalk.iteOmega]
      exact CV.out 9 (by omega) (by omega)
    · simp [go_sem, ↓IntWalk.iteOmega]
      exact CV.out 10 (by omega) (by omega)
  · simp [go_sem, ↓IntWalk.iteOmega]
    exact FZ.out i hi
  · simp
  · simpa using H9.out
  · exact ⟨none, 0, by simp, by simp, Or.inl ⟨rfl, rfl⟩⟩
  · exact H10.out.of (Nat.le_succ k) K6.size (fun j hj hl => (relab2_old hj).trans hl) (fun j hj hl => K6.block j hj (fun e => by subst e; rw [LM.out] at hl; omega))
  · simp
    omega
theorem slice_mlo (b n cap l : Nat) (x : Int) (hx : x = l) (h1 : l ≤ n) (h2 : n ≤ cap) (w : World) : (Instr.sliceAt 29 (.slice (some ⟨b, 0, none⟩) n cap) (some (.int .i64 (x))) none none).run Tryz.prog w = .ok (.slice (some ⟨b, if cap = l then 0 else l * 4, none⟩) (n - l) (cap - l)) w := by
  subst hx
  have he : (Tryz.prog).elem 29 = 82 := by simp [Program.elem, Tryz.underlying29]
  have ht' : (Tryz.prog).underlying 29 = some (.slice ((Tryz.prog).elem 29)) := by rw [he]; exact Tryz.underlying29
  rw [run_sliceAt_slice _ _ _ _ _ _ ht', run_slice_l _ _ _ _ _ ht' _ _ (by omega) (by omega)]
  have hsz : (sizeOf ((Tryz.prog).elem 29)).run Tryz.prog w = .ok 4 w := by rw [he]; kernel_rfl
  rw [hsz]
  simp only [Result.andThen, sliced, Int.toNat_natCast]
  by_cases h : cap = l
  · rw [if_pos h, if_pos h]
  · rw [if_neg h, if_neg h]
    simp [Addr.add_lit]
theorem slice_mhi (b n len cap : Nat) (h : n ≤ cap) (h0 : 0 < cap) (w : World) : (Instr.sliceAt 29 (.slice (some ⟨b, 0, none⟩) len cap) none (some (.int .i64 (n))) none).run Tryz.prog w = .ok (.slice (some ⟨b, 0, none⟩) n cap) w := by
  have he : (Tryz.prog).elem 29 = 82 := by simp [Program.elem, Tryz.underlying29]
  have ht' : (Tryz.prog).underlying 29 = some (.slice ((Tryz.prog).elem 29)) := by rw [he]; exact Tryz.underlying29
  rw [run_sliceAt_slice _ _ _ _ _ _ ht', run_slice_h _ _ _ _ _ ht' _ _ (by omega) (by omega)]
  have hsz : (sizeOf ((Tryz.prog).elem 29)).run Tryz.prog w = .ok 4 w := by rw [he]; kernel_rfl
  rw [hsz]
  simp only [Result.andThen, sliced, Int.toNat_natCast]
  rw [if_neg (by omega)]
  simp [Addr.add_lit]
/-- What 'pop' and 'peek' answer. -/
def popPost (lab : Nat → Nat) (m k : Nat) (M : ModS) (pop : Bool) (w : World) (e : Ending) (w' : World) : Prop :=
  (M.H = [] ∧ stPost lab m k ((9, []), M) w e w') ∨ ∃ i, isLeast M.H i ∧ stPost lab m k ((0, [(at0 M.H i).1, (at0 M.H i).2.1, (at0 M.H i).2.2.1]), if pop then { M with H := M.H.eraseIdx i } else M) w e w'
theorem st_peek (A B C D : Int) (ao : Option Addr) (n cap : Nat) (lab : Nat → Nat) (m k : Nat) (M : ModS) (w : World) (h : ModX w lab m k M) (hk9 : k ≤ 900000) : Calls Tryz.prog 8 #[.pointer (some ⟨m, 0, none⟩), .agg #[.int .i64 (16), .int .i64 (A), .int .i64 (B), .int .i64 (C), .int .i64 (D), .slice ao n cap]] w (popPost lab m k M false w) := by
  have HH := hid h
  obtain ⟨V, hO, h8, h9, h7, h10⟩ := h.opens
  have HO := hid hO
  have H8 := hid h8
  have H9 := hid h9
  have H10 := hid h10
  have M0 := hO w (Below.rf _)
  have c7 := M0.cv 7 (by omega) (by omega)
  have c8 := M0.cv 8 (by omega) (by omega)
  simp only at c7 c8
  rw [h8] at c8
  have H7 := hid h7
  obtain ⟨ao7, cap7, e7, h5, h6⟩ := h7
  rw [e7] at c7
  have H6 := hid h6
  have E7 := hid e7
  have bk := h.bk
  have f7 := M0.fz 7 (by omega)
  have f8 := M0.fz 8 (by omega)
  have CV := hid M0.cv
  have FZ := hid M0.fz
  have lt := M0.rd.lt
  have LM := hid h.lm
  clear h hO h8 h9 h10 M0 h6 e7
  obtain ⟨ln, hln⟩ : ∃ n, M.H.length = n := ⟨_, rfl⟩
  by_cases h0 : ln = 0
  · subst h0
    rw [hln] at c7
    have HNIL := hid (List.length_eq_zero_iff.1 hln)
    clear hln
    go_enter Tryz.func8, Tryz.ntmps8
    go_wp2
    refine bodyPost_ret (v := .agg #[.int .u8 9, .slice none 0 0]) (by simp [results, Tryz.results8, go_sem, ↓IntWalk.iteOmega, *]) rfl ?_
    exact Or.inl ⟨HNIL.out, st_fin HH.out H8.out H9.out H7.out H10.out (by (repeat (first | with_reducible exact Below.rf _ | with_reducible exact World.below_ext _ _ | with_reducible refine Below.ex ?_ _ | with_reducible refine Below.al ?_ _ | with_reducible refine Below.setCell ?_ (by simp) _ | with_reducible refine Below.drew ?_))) (by simp <;> omega) (HO.out _ (by (repeat (first | with_reducible exact Below.rf _ | with_reducible exact World.below_ext _ _ | with_reducible refine Below.ex ?_ _ | with_reducible refine Below.al ?_ _ | with_reducible refine Below.setCell ?_ (by simp) _ | with_reducible refine Below.drew ?_)))) (KeptBut.refl _ _) (KeptBut.refl _ _) HH.out.ft (IntsAt.nil _ _)⟩
  obtain ⟨b, e1, e2, e4⟩ : ∃ b, ao7 = some ⟨b, 0, none⟩ ∧ lab b = 32 ∧ HX w b cap7 M.H := by
    rcases H6.out with ⟨-, h6⟩ | h6
    · omega
    · exact h6
  subst e1
  rw [hln] at c7 h5 bk
  have HLN := hid hln
  have E4 := hid e4
  have lb := e4.lt
  have ML := hid (fun w1 (hB : Below w.heap.size w w1) => mleast_any m b ln cap7 M.H w1 (Nat.lt_of_lt_of_le lt hB.size) ((World.cell?_of_block (hB.block m lt)).trans c7) (by omega) hln (e4.below hB))
  have n0 : ((ln : Int) == 0) = false := by simp; omega
  clear hln e4
  go_enter Tryz.func8, Tryz.ntmps8
  go_wp2_with (go_at_call 44; refine (ML.out _ (by (repeat (first | with_reducible exact Below.rf _ | with_reducible exact World.below_ext _ _ | with_reducible refine Below.ex ?_ _ | with_reducible refine Below.al ?_ _ | with_reducible refine Below.setCell ?_ (by simp) _ | with_reducible refine Below.drew ?_)))).mono ?_; rintro e w' ⟨⟨i, rfl, hli⟩, z1, rfl⟩; refine hold ?_)
  unfold Hid
  have hil : i < ln := by rw [← HLN.out]; exact hli.1
  obtain ⟨p0, p1, p2, p3, -⟩ := E4.out.at (i := i) hli.1
  obtain ⟨x, hx⟩ : ∃ x, at0 M.H i = x := ⟨_, rfl⟩
  rw [hx] at p0 p1 p2 p3
  have HX1 := hid hx
  have HLI := hid hli
  clear hli hx
  go_wp2_with (go_at_call 43; refine (mok_any _ ⟨_, _, _, rfl⟩ _).mono ?_; rintro e w' ⟨rfl, z9, rfl⟩)
  refine bodyPost_ret (v := .agg #[.int .u8 0, .slice (some ⟨w.heap.size + 1 + 1 + z1.heap.size + 1, 0, none⟩) 3 3]) (by simp [results, Tryz.results8, go_sem, ↓IntWalk.iteOmega, *]) rfl ?_
  refine Or.inr ⟨i, HLI.out, ?_⟩
  rw [HX1.out]
  exact st_fin HH.out H8.out H9.out H7.out H10.out (by (repeat (first | with_reducible exact Below.rf _ | with_reducible exact World.below_ext _ _ | with_reducible refine Below.ex ?_ _ | with_reducible refine Below.al ?_ _ | with_reducible refine Below.setCell ?_ (by simp) _ | with_reducible refine Below.drew ?_))) (by simp <;> omega) (HO.out _ (by (repeat (first | with_reducible exact Below.rf _ | with_reducible exact World.below_ext _ _ | with_reducible refine Below.ex ?_ _ | with_reducible refine Below.al ?_ _ | with_reducible refine Below.setCell ?_ (by simp) _ | with_reducible refine Below.drew ?_)))) (KeptBut.refl _ _) (KeptBut.refl _ _) HH.out.ft (IntsAt.three (by omega) (by simp <;> omega) (by simp [go_sem, ↓IntWalk.iteOmega]) (by simp [go_sem, ↓IntWalk.iteOmega]) (by simp [go_sem, ↓IntWalk.iteOmega]))
end Go.Proofs.Qxb6500717aGreat
