/-
  The model's Step: advance, reserve, stand.
-/
import Derived.Test.Qxb6500717aGreatSt0
namespace Go.Proofs.Qxb6500717aGreat
open Go.RowKit
set_option linter.unusedSimpArgs false
set_option linter.unusedVariables false
set_option maxRecDepth 20000
set_option maxHeartbeats 4000000

theorem _root_.Go.KeptBut.frz {b : Nat} {w w1 : World} (h : KeptBut b w w1) {k : Nat} (o : Nat) (hk : k < w.heap.size) (hb : k ≠ b) : w1.frozen? ⟨k, o, none⟩ = w.frozen? ⟨k, o, none⟩ := World.frozen?_of_block (h.block k hk hb)
section
variable {S : MdS}
theorem trAdv_len (t : Nat) (l : List (Nat × Nat × Nat)) : (trAdv t l).length ≤ l.length := by
  induction l with
  | nil => simp [trAdv]
  | cons x l ih =>
    simp only [trAdv]
    split <;> simp <;> omega
theorem spAdv_len (t : Nat) (l : List (Nat × Nat × Nat × Nat)) : (spAdv t l).length ≤ l.length := by
  induction l with
  | nil => simp [spAdv]
  | cons x l ih =>
    simp only [spAdv]
    split <;> simp <;> omega
theorem MdS.fits.advance (h : S.fits) (t : Int) : (S.advance t).2.fits := by
  unfold MdS.advance
  split
  · exact h
  · split
    · exact h
    · have h1 := trAdv_len t.toNat S.tr
      have h2 := spAdv_len t.toNat S.sp
      simp only [MdS.fits, MdS.adv] at h ⊢
      omega
theorem MdS.fits.cut (h : S.fits) (r t : Nat) : (S.cut r t).fits := by
  have h1 := trCut_len r t S.tr
  have h2 := spCut_len r t S.sp
  simp only [MdS.fits, MdS.cut] at h ⊢
  omega
theorem MdS.stand_no {r c t : Int} (h : (S.stand r c t).1 ≠ 0) : (S.stand r c t).2 = S := by
  unfold MdS.stand at h ⊢
  split
  · rfl
  · rename_i h1
    rw [if_neg h1] at h
    split
    · rfl
    · rename_i h2
      rw [if_neg h2] at h
      split
      · rfl
      · rename_i h3
        rw [if_neg h3] at h
        split
        · rfl
        · rename_i h4
          rw [if_neg h4] at h
          split
          · rfl
          · rename_i h5
            rw [if_neg h5] at h
            exact absurd rfl h
theorem MdS.stand_yes {r c t : Int} (h : (S.stand r c t).1 = 0) : ∃ rn cn tn : Nat, r = rn ∧ c = cn ∧ t = tn ∧ rn < S.nr ∧ cn < S.nc ∧ (S.base ≤ tn ∧ tn < S.base + 256) ∧ S.later rn (-1) tn = false ∧ S.freeF rn cn tn = true ∧ (S.sit rn cn tn).swapAt ((tn : Int) - 1) = false ∧ S.tr.length + (S.sp.length + 1) ≤ S.cap ∧ (S.stand r c t).2 = S.sit rn cn tn := by
  unfold MdS.stand at h ⊢
  by_cases h1 : S.place r c t ≠ 0
  · rw [if_pos h1] at h; exact absurd h h1
  · rw [if_neg h1] at h ⊢
    have hp0 : S.place r c t = 0 := by simpa using h1
    obtain ⟨⟨r0, r1⟩, ⟨q0, q1⟩, t0, t1⟩ := MdS.place_zero hp0
    obtain ⟨rn, rfl⟩ : ∃ rn : Nat, r = rn := ⟨r.toNat, by omega⟩
    obtain ⟨cn, rfl⟩ : ∃ cn : Nat, c = cn := ⟨c.toNat, by omega⟩
    obtain ⟨tn, rfl⟩ : ∃ tn : Nat, t = tn := ⟨t.toNat, by omega⟩
    simp only [Int.toNat_natCast] at h ⊢
    by_cases h2 : S.later rn (-1) tn = true
    · rw [if_pos h2] at h; simp at h
    · rw [if_neg h2] at h ⊢
      by_cases h3 : S.freeF rn cn tn = false
      · rw [if_pos h3] at h; simp at h
      · rw [if_neg h3] at h ⊢
        by_cases h4 : (S.sit rn cn tn).swapAt ((tn : Int) - 1) = true
        · rw [if_pos h4] at h; simp at h
        · rw [if_neg h4] at h ⊢
          by_cases h5 : S.cap < S.tr.length + (S.sp.length + 1)
          · rw [if_pos h5] at h; simp at h
          · rw [if_neg h5]
            exact ⟨rn, cn, tn, rfl, rfl, rfl, by omega, by omega, by omega, by simpa using h2, by simpa using h3, by simpa using h4, by omega, rfl⟩
theorem MdS.fits.stand (h : S.fits) (r c t : Int) : (S.stand r c t).2.fits := by
  by_cases h0 : (S.stand r c t).1 = 0
  · obtain ⟨rn, cn, tn, -, -, -, -, -, -, -, -, -, h1, e⟩ := MdS.stand_yes h0
    rw [e]
    simp only [MdS.fits, MdS.sit, List.length_append, List.length_singleton]
    omega
  · rw [MdS.stand_no h0]; exact h
theorem MdS.path_tr (r start : Int) (bt : List (Nat × Nat × Nat)) (S0 : MdS) (h0 : S0.fits) (hbt : bt = S0.tr) : ∀ (cs : List Int) (i : Nat) (S : MdS), S.fits → ({ S with tr := bt } : MdS) = S0 → (MdS.path r start bt cs i S).2.2.fits := by
  intro cs
  induction cs with
  | nil => intro i S hf _; exact hf
  | cons c cs ih =>
    intro i S hf he
    simp only [MdS.path]
    split
    · next hc =>
      refine ih _ _ (hf.reserve _ _ _) ?_
      obtain ⟨rn, cn, tn, -, -, -, -, -, -, -, -, -, -, -, e⟩ := MdS.reserve_yes hc
      rw [e]
      exact he
    · rw [he]; exact h0
theorem MdS.fits.path (h : S.fits) (r start : Int) (cs : List Int) : (MdS.path r start S.tr cs 0 S).2.2.fits := MdS.path_tr r start S.tr S h rfl cs 0 S h rfl
end

theorem st_adv (A B C D : Int) (ao : Option Addr) (n cap : Nat) (lab : Nat → Nat) (m k : Nat) (M : ModS) (w : World) (h : ModX w lab m k M) (hh : M.S.has = true) : Calls Tryz.prog 8 #[.pointer (some ⟨m, 0, none⟩), .agg #[.int .i64 (1), .int .i64 (A), .int .i64 (B), .int .i64 (C), .int .i64 (D), .slice ao n cap]] w (stPost lab m k ((((M.S.advance C).1, []), { M with S := (M.S.advance C).2 })) w) := by
  have HH := hid h
  obtain ⟨V, hO, h8, h9, h7, h10⟩ := h.opens
  have HO := hid hO
  have H8 := hid h8
  have H9 := hid h9
  have H7 := hid h7
  have H10 := hid h10
  have c0 := (hO w (Below.rf _)).rd.c0
  rw [hh] at c0
  have lt := (hO w (Below.rf _)).rd.lt
  clear h hO h8 h9 h7 h10 hh
  go_enter Tryz.func8, Tryz.ntmps8
  go_wp2
  first | with_reducible refine wp_region_ext2 (by kernel_rfl) (by kernel_rfl) ?_ | refine wp_region_ext (by kernel_rfl) (by kernel_rfl) ?_
  repeat (go_big_quiet_step (fail))
  refine wpQuiet_nil ?_
  rintro _ ⟨z, rfl⟩
  go_wp2_with (go_at_call 45; refine hold ?_)
  unfold Hid
  refine (madv_any m M.S _ C _ (HO.out _ (by (repeat (first | with_reducible exact Below.rf _ | with_reducible exact World.below_ext _ _ | with_reducible refine Below.ex ?_ _ | with_reducible refine Below.al ?_ _ | with_reducible refine Below.setCell ?_ (by simp) _ | with_reducible refine Below.drew ?_))))).mono ?_
  rintro e w5 ⟨rfl, hM5, hk5⟩
  have f0 := hk5.cell (k := w.heap.size + 1) 0 (by simp <;> omega) (by omega)
  have f1 := hk5.cell (k := w.heap.size + 1) 1 (by simp <;> omega) (by omega)
  have f2 := hk5.frz (k := w.heap.size + 1) 0 (by simp <;> omega) (by omega)
  have f3 := hk5.frz (k := w.heap.size + 1) 1 (by simp <;> omega) (by omega)
  simp [go_sem, ↓IntWalk.iteOmega] at f0 f1 f2 f3
  have s5 := hk5.size
  simp at s5
  have HM5 := hid hM5
  have HK5 := hid hk5
  clear hM5 hk5 c0
  go_wp2
  refine bodyPost_ret (v := .agg #[.int .u8 (M.S.advance C).1, .slice none 0 0]) (by simp [results, Tryz.results8, go_sem, ↓IntWalk.iteOmega, *]) rfl ?_
  exact st_fin HH.out H8.out H9.out H7.out H10.out (by (repeat (first | with_reducible exact Below.rf _ | with_reducible exact World.below_ext _ _ | with_reducible refine Below.ex ?_ _ | with_reducible refine Below.al ?_ _ | with_reducible refine Below.setCell ?_ (by simp) _ | with_reducible refine Below.drew ?_))) (by simp <;> omega) HM5.out HK5.out (by (repeat (first | with_reducible exact KeptBut.refl _ _ | with_reducible refine KeptBut.ex ?_ _ | with_reducible refine KeptBut.al ?_ _ | with_reducible refine KeptBut.set' ?_ _ _))) (HH.out.ft.advance C) (IntsAt.nil _ _)
theorem st_res (A B C D : Int) (ao : Option Addr) (n cap : Nat) (lab : Nat → Nat) (m k : Nat) (M : ModS) (w : World) (h : ModX w lab m k M) (hh : M.S.has = true) : Calls Tryz.prog 8 #[.pointer (some ⟨m, 0, none⟩), .agg #[.int .i64 (2), .int .i64 (A), .int .i64 (B), .int .i64 (C), .int .i64 (D), .slice ao n cap]] w (stPost lab m k ((((M.S.reserve A B C).1, []), { M with S := (M.S.reserve A B C).2 })) w) := by
  have HH := hid h
  obtain ⟨V, hO, h8, h9, h7, h10⟩ := h.opens
  have HO := hid hO
  have H8 := hid h8
  have H9 := hid h9
  have H7 := hid h7
  have H10 := hid h10
  have c0 := (hO w (Below.rf _)).rd.c0
  rw [hh] at c0
  have lt := (hO w (Below.rf _)).rd.lt
  clear h hO h8 h9 h7 h10 hh
  go_enter Tryz.func8, Tryz.ntmps8
  go_wp2
  first | with_reducible refine wp_region_ext2 (by kernel_rfl) (by kernel_rfl) ?_ | refine wp_region_ext (by kernel_rfl) (by kernel_rfl) ?_
  repeat (go_big_quiet_step (fail))
  refine wpQuiet_nil ?_
  rintro _ ⟨z, rfl⟩
  go_wp2_with (go_at_call 46; refine hold ?_)
  unfold Hid
  refine (mres_any m M.S _ A B C _ (HO.out _ (by (repeat (first | with_reducible exact Below.rf _ | with_reducible exact World.below_ext _ _ | with_reducible refine Below.ex ?_ _ | with_reducible refine Below.al ?_ _ | with_reducible refine Below.setCell ?_ (by simp) _ | with_reducible refine Below.drew ?_)))) HH.out.ft).mono ?_
  rintro e w5 ⟨rfl, hM5, hk5⟩
  have f0 := hk5.cell (k := w.heap.size + 1) 0 (by simp <;> omega) (by omega)
  have f1 := hk5.cell (k := w.heap.size + 1) 1 (by simp <;> omega) (by omega)
  have f2 := hk5.frz (k := w.heap.size + 1) 0 (by simp <;> omega) (by omega)
  have f3 := hk5.frz (k := w.heap.size + 1) 1 (by simp <;> omega) (by omega)
  simp [go_sem, ↓IntWalk.iteOmega] at f0 f1 f2 f3
  have s5 := hk5.size
  simp at s5
  have HM5 := hid hM5
  have HK5 := hid hk5
  clear hM5 hk5 c0
  go_wp2
  refine bodyPost_ret (v := .agg #[.int .u8 (M.S.reserve A B C).1, .slice none 0 0]) (by simp [results, Tryz.results8, go_sem, ↓IntWalk.iteOmega, *]) rfl ?_
  exact st_fin HH.out H8.out H9.out H7.out H10.out (by (repeat (first | with_reducible exact Below.rf _ | with_reducible exact World.below_ext _ _ | with_reducible refine Below.ex ?_ _ | with_reducible refine Below.al ?_ _ | with_reducible refine Below.setCell ?_ (by simp) _ | with_reducible refine Below.drew ?_))) (by simp <;> omega) HM5.out HK5.out (by (repeat (first | with_reducible exact KeptBut.refl _ _ | with_reducible refine KeptBut.ex ?_ _ | with_reducible refine KeptBut.al ?_ _ | with_reducible refine KeptBut.set' ?_ _ _))) (HH.out.ft.reserve A B C) (IntsAt.nil _ _)
theorem st_stand (A B C D : Int) (ao : Option Addr) (n cap : Nat) (lab : Nat → Nat) (m k : Nat) (M : ModS) (w : World) (h : ModX w lab m k M) (hh : M.S.has = true) : Calls Tryz.prog 8 #[.pointer (some ⟨m, 0, none⟩), .agg #[.int .i64 (4), .int .i64 (A), .int .i64 (B), .int .i64 (C), .int .i64 (D), .slice ao n cap]] w (stPost lab m k ((((M.S.stand A B C).1, []), { M with S := (M.S.stand A B C).2 })) w) := by
  have HH := hid h
  obtain ⟨V, hO, h8, h9, h7, h10⟩ := h.opens
  have HO := hid hO
  have H8 := hid h8
  have H9 := hid h9
  have H7 := hid h7
  have H10 := hid h10
  have c0 := (hO w (Below.rf _)).rd.c0
  rw [hh] at c0
  have lt := (hO w (Below.rf _)).rd.lt
  clear h hO h8 h9 h7 h10 hh
  go_enter Tryz.func8, Tryz.ntmps8
  go_wp2
  first | with_reducible refine wp_region_ext2 (by kernel_rfl) (by kernel_rfl) ?_ | refine wp_region_ext (by kernel_rfl) (by kernel_rfl) ?_
  repeat (go_big_quiet_step (fail))
  refine wpQuiet_nil ?_
  rintro _ ⟨z, rfl⟩
  go_wp2_with (go_at_call 48; refine hold ?_)
  unfold Hid
  refine (mstand_any m M.S _ A B C _ (HO.out _ (by (repeat (first | with_reducible exact Below.rf _ | with_reducible exact World.below_ext _ _ | with_reducible refine Below.ex ?_ _ | with_reducible refine Below.al ?_ _ | with_reducible refine Below.setCell ?_ (by simp) _ | with_reducible refine Below.drew ?_)))) HH.out.ft).mono ?_
  rintro e w5 ⟨rfl, hM5, hk5⟩
  have f0 := hk5.cell (k := w.heap.size + 1) 0 (by simp <;> omega) (by omega)
  have f1 := hk5.cell (k := w.heap.size + 1) 1 (by simp <;> omega) (by omega)
  have f2 := hk5.frz (k := w.heap.size + 1) 0 (by simp <;> omega) (by omega)
  have f3 := hk5.frz (k := w.heap.size + 1) 1 (by simp <;> omega) (by omega)
  simp [go_sem, ↓IntWalk.iteOmega] at f0 f1 f2 f3
  have s5 := hk5.size
  simp at s5
  have HM5 := hid hM5
  have HK5 := hid hk5
  clear hM5 hk5 c0
  go_wp2
  refine bodyPost_ret (v := .agg #[.int .u8 (M.S.stand A B C).1, .slice none 0 0]) (by simp [results, Tryz.results8, go_sem, ↓IntWalk.iteOmega, *]) rfl ?_
  exact st_fin HH.out H8.out H9.out H7.out H10.out (by (repeat (first | with_reducible exact Below.rf _ | with_reducible exact World.below_ext _ _ | with_reducible refine Below.ex ?_ _ | with_reducible refine Below.al ?_ _ | with_reducible refine Below.setCell ?_ (by simp) _ | with_reducible refine Below.drew ?_))) (by simp <;> omega) HM5.out HK5.out (by (repeat (first | with_reducible exact KeptBut.refl _ _ | with_reducible refine KeptBut.ex ?_ _ | with_reducible refine KeptBut.al ?_ _ | with_reducible refine KeptBut.set' ?_ _ _))) (HH.out.ft.stand A B C) (IntsAt.nil _ _)
end Go.Proofs.Qxb6500717aGreat
