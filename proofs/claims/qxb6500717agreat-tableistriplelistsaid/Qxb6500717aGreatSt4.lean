/-
  The model's Step: FreeMove.
-/
import Derived.Test.Qxb6500717aGreatSt3
namespace Go.Proofs.Qxb6500717aGreat
open Go.RowKit
set_option linter.unusedSimpArgs false
set_option linter.unusedVariables false
set_option maxRecDepth 20000
set_option maxHeartbeats 4000000

theorem MdS.holdN_nat (S : MdS) (c t : Int) : ∀ (f r : Nat), S.holdN c t r f = -1 ∨ ∃ q : Nat, r ≤ q ∧ q < r + f ∧ S.holdN c t r f = q := by
  intro f
  induction f with
  | zero => intro r; left; rfl
  | succ f ih =>
    intro r
    simp only [MdS.holdN]
    split
    · exact Or.inr ⟨r, by omega, by omega, rfl⟩
    · rcases ih (r + 1) with h | ⟨q, h1, h2, h3⟩
      · exact Or.inl h
      · exact Or.inr ⟨q, by omega, by omega, h3⟩
theorem MdS.hold_nat (S : MdS) (c t : Int) : S.hold c t = -1 ∨ ∃ q : Nat, q < S.nr ∧ S.hold c t = q := by
  rcases S.holdN_nat c t S.nr 0 with h | ⟨q, h1, h2, h3⟩
  · exact Or.inl h
  · exact Or.inr ⟨q, by omega, h3⟩

theorem st_freeM (A B C D : Int) (ao : Option Addr) (n cap : Nat) (lab : Nat → Nat) (m k : Nat) (M : ModS) (w : World) (h : ModX w lab m k M) (hh : M.S.has = true) : Calls Tryz.prog 8 #[.pointer (some ⟨m, 0, none⟩), .agg #[.int .i64 (10), .int .i64 (A), .int .i64 (B), .int .i64 (C), .int .i64 (D), .slice ao n cap]] w (stPost lab m k (((0, [fl (M.S.qMove A B D C)]), M)) w) := by
  have HH := hid h
  obtain ⟨V, hO, h8, h9, h7, h10⟩ := h.opens
  have HO := hid hO
  have H8 := hid h8
  have H9 := hid h9
  have H7 := hid h7
  have H10 := hid h10
  have c0 := (hO w (Below.rf _)).rd.c0
  rw [hh] at c0
  have lt := (hO w (Below.rf _)).rd.lt
  clear h hO h8 h9 h7 h10 hh
  have VR := hid (fun w1 (hB : Below w.heap.size w w1) => mrobot_any m M.S A w1 (HO.out w1 hB).rd)
  have VA := hid (fun w1 (hB : Below w.heap.size w w1) => mask_any m M.S C w1 (HO.out w1 hB).rd)
  have VC := hid (fun w1 (hB : Below w.heap.size w w1) => mcell_any m M.S B w1 (HO.out w1 hB).rd)
  have FC := hid (fun w1 (hB : Below w.heap.size w w1) => mfreeC_any m M.S A D (C + 1) w1 (HO.out w1 hB).rd)
  have HD := hid (fun w1 (hB : Below w.heap.size w w1) => mhold_ext m M.S D C w1 (HO.out w1 hB).rd)
  obtain ⟨y, hy⟩ : ∃ x, (decide ((M.S.base : Int) ≤ C) && decide (C < 1099511627776)) = x := ⟨_, rfl⟩
  obtain ⟨u, hu⟩ : ∃ x, (decide (0 ≤ B) && decide (B < (M.S.nc : Int))) = x := ⟨_, rfl⟩
  obtain ⟨f, hf⟩ : ∃ x, (M.S.freeC A D (C + 1)) = x := ⟨_, rfl⟩
  simp only [hy] at VA
  simp only [hu] at VC
  simp only [hf] at FC
  cases u with
  | false =>
    rw [show M.S.qMove A B D C = false by unfold MdS.qMove MdS.isC MdS.isA; simp [*]]
    clear hy hu hf
    go_enter Tryz.func8, Tryz.ntmps8
    go_wp2
    first | with_reducible refine wp_region_ext2 (by kernel_rfl) (by kernel_rfl) ?_ | refine wp_region_ext (by kernel_rfl) (by kernel_rfl) ?_
    repeat (go_big_quiet_step (fail))
    refine wpQuiet_nil ?_
    rintro _ ⟨z, rfl⟩
    go_wp2
    first | with_reducible refine wp_region_ext2 (by kernel_rfl) (by kernel_rfl) ?_ | refine wp_region_ext (by kernel_rfl) (by kernel_rfl) ?_
    repeat (go_big_quiet_step (fail))
    refine wpQuiet_nil ?_
    rintro _ ⟨z, rfl⟩
    go_wp2_with (first | (go_at_call 56; refine (FC.out _ (by (repeat (first | with_reducible exact Below.rf _ | with_reducible exact World.below_ext _ _ | with_reducible refine Below.ex ?_ _ | with_reducible refine Below.al ?_ _ | with_reducible refine Below.setCell ?_ (by simp) _ | with_reducible refine Below.drew ?_)))).mono ?_; rintro e w' ⟨rfl, z3, rfl⟩) | (go_at_call 55; refine hold ?_) | (first | (go_at_call 49; refine (VR.out _ (by (repeat (first | with_reducible exact Below.rf _ | with_reducible exact World.below_ext _ _ | with_reducible refine Below.ex ?_ _ | with_reducible refine Below.al ?_ _ | with_reducible refine Below.setCell ?_ (by simp) _ | with_reducible refine Below.drew ?_)))).mono ?_; rintro e w' ⟨rfl, hw'⟩; obtain rfl := hw') | (go_at_call 51; refine (VC.out _ (by (repeat (first | with_reducible exact Below.rf _ | with_reducible exact World.below_ext _ _ | with_reducible refine Below.ex ?_ _ | with_reducible refine Below.al ?_ _ | with_reducible refine Below.setCell ?_ (by simp) _ | with_reducible refine Below.drew ?_)))).mono ?_; rintro e w' ⟨rfl, hw'⟩; obtain rfl := hw') | (go_at_call 52; refine (VA.out _ (by (repeat (first | with_reducible exact Below.rf _ | with_reducible exact World.below_ext _ _ | with_reducible refine Below.ex ?_ _ | with_reducible refine Below.al ?_ _ | with_reducible refine Below.setCell ?_ (by simp) _ | with_reducible refine Below.drew ?_)))).mono ?_; rintro e w' ⟨rfl, hw'⟩; obtain rfl := hw') | (go_at_call 53; refine (HD.out _ (by (repeat (first | with_reducible exact Below.rf _ | with_reducible exact World.below_ext _ _ | with_reducible refine Below.ex ?_ _ | with_reducible refine Below.al ?_ _ | with_reducible refine Below.setCell ?_ (by simp) _ | with_reducible refine Below.drew ?_)))).mono ?_; rintro e w' ⟨rfl, z1, rfl⟩) | (go_at_call 54; refine (AT.out _ (by (repeat (first | with_reducible exact Below.rf _ | with_reducible exact World.below_ext _ _ | with_reducible refine Below.ex ?_ _ | with_reducible refine Below.al ?_ _ | with_reducible refine Below.setCell ?_ (by simp) _ | with_reducible refine Below.drew ?_)))).mono ?_; rintro e w' ⟨rfl, z2, rfl⟩) | (go_at_call 43; refine (mok_any _ ⟨_, _, _, rfl⟩ _).mono ?_; rintro e w' ⟨rfl, z9, rfl⟩)))
    unfold Hid
    refine (mflag_any _ _).mono ?_
    rintro e w5 ⟨⟨v, rfl, hI⟩, hB5⟩
    have f0 := hB5.cell (p := ⟨w.heap.size + 1, 0, none⟩) (by simp <;> omega)
    have f1 := hB5.cell (p := ⟨w.heap.size + 1, 1, none⟩) (by simp <;> omega)
    have f2 := hB5.frozen (p := ⟨w.heap.size + 1, 0, none⟩) (by simp <;> omega)
    have f3 := hB5.frozen (p := ⟨w.heap.size + 1, 1, none⟩) (by simp <;> omega)
    simp [go_sem, ↓IntWalk.iteOmega] at f0 f1 f2 f3
    have s5 := hB5.size
    simp at s5
    have HI := hid hI
    have HB5 := hid hB5
    obtain ⟨ao5, cap5, rfl, -⟩ := hI
    clear hB5 c0
    go_wp2
    refine bodyPost_ret (v := .agg #[.int .u8 0, .slice ao5 1 cap5]) (by simp [results, Tryz.results8, go_sem, ↓IntWalk.iteOmega, *]) rfl ?_
    exact st_finF HH.out (by (repeat (first | with_reducible exact Below.rf _ | with_reducible exact World.below_ext _ _ | with_reducible refine Below.ex ?_ _ | with_reducible refine Below.al ?_ _ | with_reducible refine Below.setCell ?_ (by simp) _ | with_reducible refine Below.drew ?_))) (by simp <;> omega) HB5.out HI.out (by (repeat (first | with_reducible exact KeptBut.refl _ _ | with_reducible refine KeptBut.ex ?_ _ | with_reducible refine KeptBut.al ?_ _ | with_reducible refine KeptBut.set' ?_ _ _)))
  | true =>
    cases y with
    | false =>
      rw [show M.S.qMove A B D C = false by unfold MdS.qMove MdS.isC MdS.isA; simp [*]]
      clear hy hu hf
      go_enter Tryz.func8, Tryz.ntmps8
      go_wp2
      first | with_reducible refine wp_region_ext2 (by kernel_rfl) (by kernel_rfl) ?_ | refine wp_region_ext (by kernel_rfl) (by kernel_rfl) ?_
      repeat (go_big_quiet_step (fail))
      refine wpQuiet_nil ?_
      rintro _ ⟨z, rfl⟩
      go_wp2
      first | with_reducible refine wp_region_ext2 (by kernel_rfl) (by kernel_rfl) ?_ | refine wp_region_ext (by kernel_rfl) (by kernel_rfl) ?_
      repeat (go_big_quiet_step (fail))
      refine wpQuiet_nil ?_
      rintro _ ⟨z, rfl⟩
      go_wp2_with (first | (go_at_call 56; refine (FC.out _ (by (repeat (first | with_reducible exact Below.rf _ | with_reducible exact World.below_ext _ _ | with_reducible refine Below.ex ?_ _ | with_reducible refine Below.al ?_ _ | with_reducible refine Below.setCell ?_ (by simp) _ | with_reducible refine Below.drew ?_)))).mono ?_; rintro e w' ⟨rfl, z3, rfl⟩) | (go_at_call 55; refine hold ?_) | (first | (go_at_call 49; refine (VR.out _ (by (repeat (first | with_reducible exact Below.rf _ | with_reducible exact World.below_ext _ _ | with_reducible refine Below.ex ?_ _ | with_reducible refine Below.al ?_ _ | with_reducible refine Below.setCell ?_ (by simp) _ | with_reducible refine Below.drew ?_)))).mono ?_; rintro e w' ⟨rfl, hw'⟩; obtain rfl := hw') | (go_at_call 51; refine (VC.out _ (by (repeat (first | with_reducible exact Below.rf _ | with_reducible exact World.below_ext _ _ | with_reducible refine Below.ex ?_ _ | with_reducible refine Below.al ?_ _ | with_reducible refine Below.setCell ?_ (by simp) _ | with_reducible refine Below.drew ?_)))).mono ?_; rintro e w' ⟨rfl, hw'⟩; obtain rfl := hw') | (go_at_call 52; refine (VA.out _ (by (repeat (first | with_reducible exact Below.rf _ | with_reducible exact World.below_ext _ _ | with_reducible refine Below.ex ?_ _ | with_reducible refine Below.al ?_ _ | with_reducible refine Below.setCell ?_ (by simp) _ | with_reducible refine Below.drew ?_)))).mono ?_; rintro e w' ⟨rfl, hw'⟩; obtain rfl := hw') | (go_at_call 53; refine (HD.out _ (by (repeat (first | with_reducible exact Below.rf _ | with_reducible exact World.below_ext _ _ | with_reducible refine Below.ex ?_ _ | with_reducible refine Below.al ?_ _ | with_reducible refine Below.setCell ?_ (by simp) _ | with_reducible refine Below.drew ?_)))).mono ?_; rintro e w' ⟨rfl, z1, rfl⟩) | (go_at_call 54; refine (AT.out _ (by (repeat (first | with_reducible exact Below.rf _ | with_reducible exact World.below_ext _ _ | with_reducible refine Below.ex ?_ _ | with_reducible refine Below.al ?_ _ | with_reducible refine Below.setCell ?_ (by simp) _ | with_reducible refine Below.drew ?_)))).mono ?_; rintro e w' ⟨rfl, z2, rfl⟩) | (go_at_call 43; refine (mok_any _ ⟨_, _, _, rfl⟩ _).mono ?_; rintro e w' ⟨rfl, z9, rfl⟩)))
      unfold Hid
      refine (mflag_any _ _).mono ?_
      rintro e w5 ⟨⟨v, rfl, hI⟩, hB5⟩
      have f0 := hB5.cell (p := ⟨w.heap.size + 1, 0, none⟩) (by simp <;> omega)
      have f1 := hB5.cell (p := ⟨w.heap.size + 1, 1, none⟩) (by simp <;> omega)
      have f2 := hB5.frozen (p := ⟨w.heap.size + 1, 0, none⟩) (by simp <;> omega)
      have f3 := hB5.frozen (p := ⟨w.heap.size + 1, 1, none⟩) (by simp <;> omega)
      simp [go_sem, ↓IntWalk.iteOmega] at f0 f1 f2 f3
      have s5 := hB5.size
      simp at s5
      have HI := hid hI
      have HB5 := hid hB5
      obtain ⟨ao5, cap5, rfl, -⟩ := hI
      clear hB5 c0
      go_wp2
      refine bodyPost_ret (v := .agg #[.int .u8 0, .slice ao5 1 cap5]) (by simp [results, Tryz.results8, go_sem, ↓IntWalk.iteOmega, *]) rfl ?_
      exact st_finF HH.out (by (repeat (first | with_reducible exact Below.rf _ | with_reducible exact World.below_ext _ _ | with_reducible refine Below.ex ?_ _ | with_reducible refine Below.al ?_ _ | with_reducible refine Below.setCell ?_ (by simp) _ | with_reducible refine Below.drew ?_))) (by simp <;> omega) HB5.out HI.out (by (repeat (first | with_reducible exact KeptBut.refl _ _ | with_reducible refine KeptBut.ex ?_ _ | with_reducible refine KeptBut.al ?_ _ | with_reducible refine KeptBut.set' ?_ _ _)))
    | true =>
      have hC : (M.S.base : Int) ≤ C ∧ C < 1099511627776 := by simpa using hy
      obtain ⟨hC1, hC2⟩ := hC
      cases f with
      | false =>
        rw [show M.S.qMove A B D C = false by unfold MdS.qMove MdS.isC MdS.isA; simp [*]]
        clear hy hu hf
        go_enter Tryz.func8, Tryz.ntmps8
        go_wp2
        first | with_reducible refine wp_region_ext2 (by kernel_rfl) (by kernel_rfl) ?_ | refine wp_region_ext (by kernel_rfl) (by kernel_rfl) ?_
        repeat (go_big_quiet_step (fail))
        refine wpQuiet_nil ?_
        rintro _ ⟨z, rfl⟩
        go_wp2
        first | with_reducible refine wp_region_ext2 (by kernel_rfl) (by kernel_rfl) ?_ | refine wp_region_ext (by kernel_rfl) (by kernel_rfl) ?_
        repeat (go_big_quiet_step (fail))
        refine wpQuiet_nil ?_
        rintro _ ⟨z, rfl⟩
        go_wp2_with (first | (go_at_call 56; refine (FC.out _ (by (repeat (first | with_reducible exact Below.rf _ | with_reducible exact World.below_ext _ _ | with_reducible refine Below.ex ?_ _ | with_reducible refine Below.al ?_ _ | with_reducible refine Below.setCell ?_ (by simp) _ | with_reducible refine Below.drew ?_)))).mono ?_; rintro e w' ⟨rfl, z3, rfl⟩) | (go_at_call 55; refine hold ?_) | (first | (go_at_call 49; refine (VR.out _ (by (repeat (first | with_reducible exact Below.rf _ | with_reducible exact World.below_ext _ _ | with_reducible refine Below.ex ?_ _ | with_reducible refine Below.al ?_ _ | with_reducible refine Below.setCell ?_ (by simp) _ | with_reducible refine Below.drew ?_)))).mono ?_; rintro e w' ⟨rfl, hw'⟩; obtain rfl := hw') | (go_at_call 51; refine (VC.out _ (by (repeat (first | with_reducible exact Below.rf _ | with_reducible exact World.below_ext _ _ | with_reducible refine Below.ex ?_ _ | with_reducible refine Below.al ?_ _ | with_reducible refine Below.setCell ?_ (by simp) _ | with_reducible refine Below.drew ?_)))).mono ?_; rintro e w' ⟨rfl, hw'⟩; obtain rfl := hw') | (go_at_call 52; refine (VA.out _ (by (repeat (first | with_reducible exact Below.rf _ | with_reducible exact World.below_ext _ _ | with_reducible refine Below.ex ?_ _ | with_reducible refine Below.al ?_ _ | with_reducible refine Below.setCell ?_ (by simp) _ | with_reducible refine Below.drew ?_)))).mono ?_; rintro e w' ⟨rfl, hw'⟩; obtain rfl := hw') | (go_at_call 53; refine (HD.out _ (by (repeat (first | with_reducible exact Below.rf _ | with_reducible exact World.below_ext _ _ | with_reducible refine Below.ex ?_ _ | with_reducible refine Below.al ?_ _ | with_reducible refine Below.setCell ?_ (by simp) _ | with_reducible refine Below.drew ?_)))).mono ?_; rintro e w' ⟨rfl, z1, rfl⟩) | (go_at_call 54; refine (AT.out _ (by (repeat (first | with_reducible exact Below.rf _ | with_reducible exact World.below_ext _ _ | with_reducible refine Below.ex ?_ _ | with_reducible refine Below.al ?_ _ | with_reducible refine Below.setCell ?_ (by simp) _ | with_reducible refine Below.drew ?_)))).mono ?_; rintro e w' ⟨rfl, z2, rfl⟩) | (go_at_call 43; refine (mok_any _ ⟨_, _, _, rfl⟩ _).mono ?_; rintro e w' ⟨rfl, z9, rfl⟩)))
        unfold Hid
        refine (mflag_any _ _).mono ?_
        rintro e w5 ⟨⟨v, rfl, hI⟩, hB5⟩
        have f0 := hB5.cell (p := ⟨w.heap.size + 1, 0, none⟩) (by simp <;> omega)
        have f1 := hB5.cell (p := ⟨w.heap.size + 1, 1, none⟩) (by simp <;> omega)
        have f2 := hB5.frozen (p := ⟨w.heap.size + 1, 0, none⟩) (by simp <;> omega)
        have f3 := hB5.frozen (p := ⟨w.heap.size + 1, 1, none⟩) (by simp <;> omega)
        simp [go_sem, ↓IntWalk.iteOmega] at f0 f1 f2 f3
        have s5 := hB5.size
        simp at s5
        have HI := hid hI
        have HB5 := hid hB5
        obtain ⟨ao5, cap5, rfl, -⟩ := hI
        clear hB5 c0
        go_wp2
        refine bodyPost_ret (v := .agg #[.int .u8 0, .slice ao5 1 cap5]) (by simp [results, Tryz.results8, go_sem, ↓IntWalk.iteOmega, *]) rfl ?_
        exact st_finF HH.out (by (repeat (first | with_reducible exact Below.rf _ | with_reducible exact World.below_ext _ _ | with_reducible refine Below.ex ?_ _ | with_reducible refine Below.al ?_ _ | with_reducible refine Below.setCell ?_ (by simp) _ | with_reducible refine Below.drew ?_))) (by simp <;> omega) HB5.out HI.out (by (repeat (first | with_reducible exact KeptBut.refl _ _ | with_reducible refine KeptBut.ex ?_ _ | with_reducible refine KeptBut.al ?_ _ | with_reducible refine KeptBut.set' ?_ _ _)))
      | true =>
        obtain ⟨ho, hh⟩ : ∃ x, M.S.hold D C = x := ⟨_, rfl⟩
        have hnat := M.S.hold_nat D C
        simp only [hh] at HD hnat
        by_cases h1 : B = D
        · have b1 : (B == D) = true := by simpa using h1
          have b1' : (B != D) = false := by simpa using h1
          rw [show M.S.qMove A B D C = true by unfold MdS.qMove MdS.isC MdS.isA; rw [hy, hu, hf, hh]; simp [h1]]
          clear hy hu hf hh hnat h1
          go_enter Tryz.func8, Tryz.ntmps8
          go_wp2
          first | with_reducible refine wp_region_ext2 (by kernel_rfl) (by kernel_rfl) ?_ | refine wp_region_ext (by kernel_rfl) (by kernel_rfl) ?_
          repeat (go_big_quiet_step (fail))
          refine wpQuiet_nil ?_
          rintro _ ⟨z, rfl⟩
          go_wp2
          first | with_reducible refine wp_region_ext2 (by kernel_rfl) (by kernel_rfl) ?_ | refine wp_region_ext (by kernel_rfl) (by kernel_rfl) ?_
          repeat (go_big_quiet_step (fail))
          refine wpQuiet_nil ?_
          rintro _ ⟨z, rfl⟩
          go_wp2_with (first | (go_at_call 56; refine (FC.out _ (by (repeat (first | with_reducible exact Below.rf _ | with_reducible exact World.below_ext _ _ | with_reducible refine Below.ex ?_ _ | with_reducible refine Below.al ?_ _ | with_reducible refine Below.setCell ?_ (by simp) _ | with_reducible refine Below.drew ?_)))).mono ?_; rintro e w' ⟨rfl, z3, rfl⟩) | (go_at_call 55; refine hold ?_) | (first | (go_at_call 49; refine (VR.out _ (by (repeat (first | with_reducible exact Below.rf _ | with_reducible exact World.below_ext _ _ | with_reducible refine Below.ex ?_ _ | with_reducible refine Below.al ?_ _ | with_reducible refine Below.setCell ?_ (by simp) _ | with_reducible refine Below.drew ?_)))).mono ?_; rintro e w' ⟨rfl, hw'⟩; obtain rfl := hw') | (go_at_call 51; refine (VC.out _ (by (repeat (first | with_reducible exact Below.rf _ | with_reducible exact World.below_ext _ _ | with_reducible refine Below.ex ?_ _ | with_reducible refine Below.al ?_ _ | with_reducible refine Below.setCell ?_ (by simp) _ | with_reducible refine Below.drew ?_)))).mono ?_; rintro e w' ⟨rfl, hw'⟩; obtain rfl := hw') | (go_at_call 52; refine (VA.out _ (by (repeat (first | with_reducible exact Below.rf _ | with_reducible exact World.below_ext _ _ | with_reducible refine Below.ex ?_ _ | with_reducible refine Below.al ?_ _ | with_reducible refine Below.setCell ?_ (by simp) _ | with_reducible refine Below.drew ?_)))).mono ?_; rintro e w' ⟨rfl, hw'⟩; obtain rfl := hw') | (go_at_call 53; refine (HD.out _ (by (repeat (first | with_reducible exact Below.rf _ | with_reducible exact World.below_ext _ _ | with_reducible refine Below.ex ?_ _ | with_reducible refine Below.al ?_ _ | with_reducible refine Below.setCell ?_ (by simp) _ | with_reducible refine Below.drew ?_)))).mono ?_; rintro e w' ⟨rfl, z1, rfl⟩) | (go_at_call 54; refine (AT.out _ (by (repeat (first | with_reducible exact Below.rf _ | with_reducible exact World.below_ext _ _ | with_reducible refine Below.ex ?_ _ | with_reducible refine Below.al ?_ _ | with_reducible refine Below.setCell ?_ (by simp) _ | with_reducible refine Below.drew ?_)))).mono ?_; rintro e w' ⟨rfl, z2, rfl⟩) | (go_at_call 43; refine (mok_any _ ⟨_, _, _, rfl⟩ _).mono ?_; rintro e w' ⟨rfl, z9, rfl⟩)))
          unfold Hid
          refine (mflag_any _ _).mono ?_
          rintro e w5 ⟨⟨v, rfl, hI⟩, hB5⟩
          have f0 := hB5.cell (p := ⟨w.heap.size + 1, 0, none⟩) (by simp <;> omega)
          have f1 := hB5.cell (p := ⟨w.heap.size + 1, 1, none⟩) (by simp <;> omega)
          have f2 := hB5.frozen (p := ⟨w.heap.size + 1, 0, none⟩) (by simp <;> omega)
          have f3 := hB5.frozen (p := ⟨w.heap.size + 1, 1, none⟩) (by simp <;> omega)
          simp [go_sem, ↓IntWalk.iteOmega] at f0 f1 f2 f3
          have s5 := hB5.size
          simp at s5
          have HI := hid hI
          have HB5 := hid hB5
          obtain ⟨ao5, cap5, rfl, -⟩ := hI
          clear hB5 c0
          go_wp2
          refine bodyPost_ret (v := .agg #[.int .u8 0, .slice ao5 1 cap5]) (by simp [results, Tryz.results8, go_sem, ↓IntWalk.iteOmega, *]) rfl ?_
          exact st_finF HH.out (by (repeat (first | with_reducible exact Below.rf _ | with_reducible exact World.below_ext _ _ | with_reducible refine Below.ex ?_ _ | with_reducible refine Below.al ?_ _ | with_reducible refine Below.setCell ?_ (by simp) _ | with_reducible refine Below.drew ?_))) (by simp <;> omega) HB5.out HI.out (by (repeat (first | with_reducible exact KeptBut.refl _ _ | with_reducible refine KeptBut.ex ?_ _ | with_reducible refine KeptBut.al ?_ _ | with_reducible refine KeptBut.set' ?_ _ _)))
        · have b1 : (B == D) = false := by simpa using h1
          have b1' : (B != D) = true := by simpa using h1
          rcases hnat with rfl | ⟨q, hq, rfl⟩
          · rw [show M.S.qMove A B D C = true by unfold MdS.qMove MdS.isC MdS.isA; rw [hy, hu, hf, hh]; simp]
            clear hy hu hf hh h1
            go_enter Tryz.func8, Tryz.ntmps8
            go_wp2
            first | with_reducible refine wp_region_ext2 (by kernel_rfl) (by kernel_rfl) ?_ | refine wp_region_ext (by kernel_rfl) (by kernel_rfl) ?_
            repeat (go_big_quiet_step (fail))
            refine wpQuiet_nil ?_
            rintro _ ⟨z, rfl⟩
            go_wp2
            first | with_reducible refine wp_region_ext2 (by kernel_rfl) (by kernel_rfl) ?_ | refine wp_region_ext (by kernel_rfl) (by kernel_rfl) ?_
            repeat (go_big_quiet_step (fail))
            refine wpQuiet_nil ?_
            rintro _ ⟨z, rfl⟩
            go_wp2_with (first | (go_at_call 56; refine (FC.out _ (by (repeat (first | with_reducible exact Below.rf _ | with_reducible exact World.below_ext _ _ | with_reducible refine Below.ex ?_ _ | with_reducible refine Below.al ?_ _ | with_reducible refine Below.setCell ?_ (by simp) _ | with_reducible refine Below.drew ?_)))).mono ?_; rintro e w' ⟨rfl, z3, rfl⟩) | (go_at_call 55; refine hold ?_) | (first | (go_at_call 49; refine (VR.out _ (by (repeat (first | with_reducible exact Below.rf _ | with_reducible exact World.below_ext _ _ | with_reducible refine Below.ex ?_ _ | with_reducible refine Below.al ?_ _ | with_reducible refine Below.setCell ?_ (by simp) _ | with_reducible refine Below.drew ?_)))).mono ?_; rintro e w' ⟨rfl, hw'⟩; obtain rfl := hw') | (go_at_call 51; refine (VC.out _ (by (repeat (first | with_reducible exact Below.rf _ | with_reducible exact World.below_ext _ _ | with_reducible refine Below.ex ?_ _ | with_reducible refine Below.al ?_ _ | with_reducible refine Below.setCell ?_ (by simp) _ | with_reducible refine Below.drew ?_)))).mono ?_; rintro e w' ⟨rfl, hw'⟩; obtain rfl := hw') | (go_at_call 52; refine (VA.out _ (by (repeat (first | with_reducible exact Below.rf _ | with_reducible exact World.below_ext _ _ | with_reducible refine Below.ex ?_ _ | with_reducible refine Below.al ?_ _ | with_reducible refine Below.setCell ?_ (by simp) _ | with_reducible refine Below.drew ?_)))).mono ?_; rintro e w' ⟨rfl, hw'⟩; obtain rfl := hw') | (go_at_call 53; refine (HD.out _ (by (repeat (first | with_reducible exact Below.rf _ | with_reducible exact World.below_ext _ _ | with_reducible refine Below.ex ?_ _ | with_reducible refine Below.al ?_ _ | with_reducible refine Below.setCell ?_ (by simp) _ | with_reducible refine Below.drew ?_)))).mono ?_; rintro e w' ⟨rfl, z1, rfl⟩) | (go_at_call 54; refine (AT.out _ (by (repeat (first | with_reducible exact Below.rf _ | with_reducible exact World.below_ext _ _ | with_reducible refine Below.ex ?_ _ | with_reducible refine Below.al ?_ _ | with_reducible refine Below.setCell ?_ (by simp) _ | with_reducible refine Below.drew ?_)))).mono ?_; rintro e w' ⟨rfl, z2, rfl⟩) | (go_at_call 43; refine (mok_any _ ⟨_, _, _, rfl⟩ _).mono ?_; rintro e w' ⟨rfl, z9, rfl⟩)))
            unfold Hid
            refine (mflag_any _ _).mono ?_
            rintro e w5 ⟨⟨v, rfl, hI⟩, hB5⟩
            have f0 := hB5.cell (p := ⟨w.heap.size + 1, 0, none⟩) (by simp <;> omega)
            have f1 := hB5.cell (p := ⟨w.heap.size + 1, 1, none⟩) (by simp <;> omega)
            have f2 := hB5.frozen (p := ⟨w.heap.size + 1, 0, none⟩) (by simp <;> omega)
            have f3 := hB5.frozen (p := ⟨w.heap.size + 1, 1, none⟩) (by simp <;> omega)
            simp [go_sem, ↓IntWalk.iteOmega] at f0 f1 f2 f3
            have s5 := hB5.size
            simp at s5
            have HI := hid hI
            have HB5 := hid hB5
            obtain ⟨ao5, cap5, rfl, -⟩ := hI
            clear hB5 c0
            go_wp2
            refine bodyPost_ret (v := .agg #[.int .u8 0, .slice ao5 1 cap5]) (by simp [results, Tryz.results8, go_sem, ↓IntWalk.iteOmega, *]) rfl ?_
            exact st_finF HH.out (by (repeat (first | with_reducible exact Below.rf _ | with_reducible exact World.below_ext _ _ | with_reducible refine Below.ex ?_ _ | with_reducible refine Below.al ?_ _ | with_reducible refine Below.setCell ?_ (by simp) _ | with_reducible refine Below.drew ?_))) (by simp <;> omega) HB5.out HI.out (by (repeat (first | with_reducible exact KeptBut.refl _ _ | with_reducible refine KeptBut.ex ?_ _ | with_reducible refine KeptBut.al ?_ _ | with_reducible refine KeptBut.set' ?_ _ _)))
          · by_cases h2 : (q : Int) = A
            · rw [show M.S.qMove A B D C = true by unfold MdS.qMove MdS.isC MdS.isA; rw [hy, hu, hf, hh]; simp [h2]]
              have b2 : ((q : Int) == A) = true := by simpa using h2
              have b2' : ((q : Int) != A) = false := by simpa using h2
              have b3 : ((q : Int) != -1) = true := by simp
              have b3' : ((q : Int) == -1) = false := by simp
              clear hy hu hf hh h1 h2
              go_enter Tryz.func8, Tryz.ntmps8
              go_wp2
              first | with_reducible refine wp_region_ext2 (by kernel_rfl) (by kernel_rfl) ?_ | refine wp_region_ext (by kernel_rfl) (by kernel_rfl) ?_
              repeat (go_big_quiet_step (fail))
              refine wpQuiet_nil ?_
              rintro _ ⟨z, rfl⟩
              go_wp2
              first | with_reducible refine wp_region_ext2 (by kernel_rfl) (by kernel_rfl) ?_ | refine wp_region_ext (by kernel_rfl) (by kernel_rfl) ?_
              repeat (go_big_quiet_step (fail))
              refine wpQuiet_nil ?_
              rintro _ ⟨z, rfl⟩
              go_wp2_with (first | (go_at_call 56; refine (FC.out _ (by (repeat (first | with_reducible exact Below.rf _ | with_reducible exact World.below_ext _ _ | with_reducible refine Below.ex ?_ _ | with_reducible refine Below.al ?_ _ | with_reducible refine Below.setCell ?_ (by simp) _ | with_reducible refine Below.drew ?_)))).mono ?_; rintro e w' ⟨rfl, z3, rfl⟩) | (go_at_call 55; refine hold ?_) | (first | (go_at_call 49; refine (VR.out _ (by (repeat (first | with_reducible exact Below.rf _ | with_reducible exact World.below_ext _ _ | with_reducible refine Below.ex ?_ _ | with_reducible refine Below.al ?_ _ | with_reducible refine Below.setCell ?_ (by simp) _ | with_reducible refine Below.drew ?_)))).mono ?_; rintro e w' ⟨rfl, hw'⟩; obtain rfl := hw') | (go_at_call 51; refine (VC.out _ (by (repeat (first | with_reducible exact Below.rf _ | with_reducible exact World.below_ext _ _ | with_reducible refine Below.ex ?_ _ | with_reducible refine Below.al ?_ _ | with_reducible refine Below.setCell ?_ (by simp) _ | with_reducible refine Below.drew ?_)))).mono ?_; rintro e w' ⟨rfl, hw'⟩; obtain rfl := hw') | (go_at_call 52; refine (VA.out _ (by (repeat (first | with_reducible exact Below.rf _ | with_reducible exact World.below_ext _ _ | with_reducible refine Below.ex ?_ _ | with_reducible refine Below.al ?_ _ | with_reducible refine Below.setCell ?_ (by simp) _ | with_reducible refine Below.drew ?_)))).mono ?_; rintro e w' ⟨rfl, hw'⟩; obtain rfl := hw') | (go_at_call 53; refine (HD.out _ (by (repeat (first | with_reducible exact Below.rf _ | with_reducible exact World.below_ext _ _ | with_reducible refine Below.ex ?_ _ | with_reducible refine Below.al ?_ _ | with_reducible refine Below.setCell ?_ (by simp) _ | with_reducible refine Below.drew ?_)))).mono ?_; rintro e w' ⟨rfl, z1, rfl⟩) | (go_at_call 54; refine (AT.out _ (by (repeat (first | with_reducible exact Below.rf _ | with_reducible exact World.below_ext _ _ | with_reducible refine Below.ex ?_ _ | with_reducible refine Below.al ?_ _ | with_reducible refine Below.setCell ?_ (by simp) _ | with_reducible refine Below.drew ?_)))).mono ?_; rintro e w' ⟨rfl, z2, rfl⟩) | (go_at_call 43; refine (mok_any _ ⟨_, _, _, rfl⟩ _).mono ?_; rintro e w' ⟨rfl, z9, rfl⟩)))
              unfold Hid
              refine (mflag_any _ _).mono ?_
              rintro e w5 ⟨⟨v, rfl, hI⟩, hB5⟩
              have f0 := hB5.cell (p := ⟨w.heap.size + 1, 0, none⟩) (by simp <;> omega)
              have f1 := hB5.cell (p := ⟨w.heap.size + 1, 1, none⟩) (by simp <;> omega)
              have f2 := hB5.frozen (p := ⟨w.heap.size + 1, 0, none⟩) (by simp <;> omega)
              have f3 := hB5.frozen (p := ⟨w.heap.size + 1, 1, none⟩) (by simp <;> omega)
              simp [go_sem, ↓IntWalk.iteOmega] at f0 f1 f2 f3
              have s5 := hB5.size
              simp at s5
              have HI := hid hI
              have HB5 := hid hB5
              obtain ⟨ao5, cap5, rfl, -⟩ := hI
              clear hB5 c0
              go_wp2
              refine bodyPost_ret (v := .agg #[.int .u8 0, .slice ao5 1 cap5]) (by simp [results, Tryz.results8, go_sem, ↓IntWalk.iteOmega, *]) rfl ?_
              exact st_finF HH.out (by (repeat (first | with_reducible exact Below.rf _ | with_reducible exact World.below_ext _ _ | with_reducible refine Below.ex ?_ _ | with_reducible refine Below.al ?_ _ | with_reducible refine Below.setCell ?_ (by simp) _ | with_reducible refine Below.drew ?_))) (by simp <;> omega) HB5.out HI.out (by (repeat (first | with_reducible exact KeptBut.refl _ _ | with_reducible refine KeptBut.ex ?_ _ | with_reducible refine KeptBut.al ?_ _ | with_reducible refine KeptBut.set' ?_ _ _)))
            · have AT := hid (fun w1 (hB : Below w.heap.size w w1) => mat_ext m M.S q (C + 1) w1 (HO.out w1 hB).rd)
              obtain ⟨av, ha⟩ : ∃ x, M.S.at q (C + 1) = x := ⟨_, rfl⟩
              simp only [ha] at AT
              have b2 : ((q : Int) == A) = false := by simpa using h2
              have b2' : ((q : Int) != A) = true := by simpa using h2
              have b3 : ((q : Int) != -1) = true := by simp
              have b3' : ((q : Int) == -1) = false := by simp
              by_cases h3 : av = B
              · rw [show M.S.qMove A B D C = false by unfold MdS.qMove MdS.isC MdS.isA; rw [hy, hu, hf, hh]; simp [h2, h1, ha, h3]]
                have b4 : (av == B) = true := by simpa using h3
                clear hy hu hf hh h1 h2 h3 ha
                go_enter Tryz.func8, Tryz.ntmps8
                go_wp2
                first | with_reducible refine wp_region_ext2 (by kernel_rfl) (by kernel_rfl) ?_ | refine wp_region_ext (by kernel_rfl) (by kernel_rfl) ?_
                repeat (go_big_quiet_step (fail))
                refine wpQuiet_nil ?_
                rintro _ ⟨z, rfl⟩
                go_wp2
                first | with_reducible refine wp_region_ext2 (by kernel_rfl) (by kernel_rfl) ?_ | refine wp_region_ext (by kernel_rfl) (by kernel_rfl) ?_
                repeat (go_big_quiet_step (fail))
                refine wpQuiet_nil ?_
                rintro _ ⟨z, rfl⟩
                go_wp2_with (first | (go_at_call 56; refine (FC.out _ (by (repeat (first | with_reducible exact Below.rf _ | with_reducible exact World.below_ext _ _ | with_reducible refine Below.ex ?_ _ | with_reducible refine Below.al ?_ _ | with_reducible refine Below.setCell ?_ (by simp) _ | with_reducible refine Below.drew ?_)))).mono ?_; rintro e w' ⟨rfl, z3, rfl⟩) | (go_at_call 55; refine hold ?_) | (first | (go_at_call 49; refine (VR.out _ (by (repeat (first | with_reducible exact Below.rf _ | with_reducible exact World.below_ext _ _ | with_reducible refine Below.ex ?_ _ | with_reducible refine Below.al ?_ _ | with_reducible refine Below.setCell ?_ (by simp) _ | with_reducible refine Below.drew ?_)))).mono ?_; rintro e w' ⟨rfl, hw'⟩; obtain rfl := hw') | (go_at_call 51; refine (VC.out _ (by (repeat (first | with_reducible exact Below.rf _ | with_reducible exact World.below_ext _ _ | with_reducible refine Below.ex ?_ _ | with_reducible refine Below.al ?_ _ | with_reducible refine Below.setCell ?_ (by simp) _ | with_reducible refine Below.drew ?_)))).mono ?_; rintro e w' ⟨rfl, hw'⟩; obtain rfl := hw') | (go_at_call 52; refine (VA.out _ (by (repeat (first | with_reducible exact Below.rf _ | with_reducible exact World.below_ext _ _ | with_reducible refine Below.ex ?_ _ | with_reducible refine Below.al ?_ _ | with_reducible refine Below.setCell ?_ (by simp) _ | with_reducible refine Below.drew ?_)))).mono ?_; rintro e w' ⟨rfl, hw'⟩; obtain rfl := hw') | (go_at_call 53; refine (HD.out _ (by (repeat (first | with_reducible exact Below.rf _ | with_reducible exact World.below_ext _ _ | with_reducible refine Below.ex ?_ _ | with_reducible refine Below.al ?_ _ | with_reducible refine Below.setCell ?_ (by simp) _ | with_reducible refine Below.drew ?_)))).mono ?_; rintro e w' ⟨rfl, z1, rfl⟩) | (go_at_call 54; refine (AT.out _ (by (repeat (first | with_reducible exact Below.rf _ | with_reducible exact World.below_ext _ _ | with_reducible refine Below.ex ?_ _ | with_reducible refine Below.al ?_ _ | with_reducible refine Below.setCell ?_ (by simp) _ | with_reducible refine Below.drew ?_)))).mono ?_; rintro e w' ⟨rfl, z2, rfl⟩) | (go_at_call 43; refine (mok_any _ ⟨_, _, _, rfl⟩ _).mono ?_; rintro e w' ⟨rfl, z9, rfl⟩)))
                unfold Hid
                refine (mflag_any _ _).mono ?_
                rintro e w5 ⟨⟨v, rfl, hI⟩, hB5⟩
                have f0 := hB5.cell (p := ⟨w.heap.size + 1, 0, none⟩) (by simp <;> omega)
                have f1 := hB5.cell (p := ⟨w.heap.size + 1, 1, none⟩) (by simp <;> omega)
                have f2 := hB5.frozen (p := ⟨w.heap.size + 1, 0, none⟩) (by simp <;> omega)
                have f3 := hB5.frozen (p := ⟨w.heap.size + 1, 1, none⟩) (by simp <;> omega)
                simp [go_sem, ↓IntWalk.iteOmega] at f0 f1 f2 f3
                have s5 := hB5.size
                simp at s5
                have HI := hid hI
                have HB5 := hid hB5
                obtain ⟨ao5, cap5, rfl, -⟩ := hI
                clear hB5 c0
                go_wp2
                refine bodyPost_ret (v := .agg #[.int .u8 0, .slice ao5 1 cap5]) (by simp [results, Tryz.results8, go_sem, ↓IntWalk.iteOmega, *]) rfl ?_
                exact st_finF HH.out (by (repeat (first | with_reducible exact Below.rf _ | with_reducible exact World.below_ext _ _ | with_reducible refine Below.ex ?_ _ | with_reducible refine Below.al ?_ _ | with_reducible refine Below.setCell ?_ (by simp) _ | with_reducible refine Below.drew ?_))) (by simp <;> omega) HB5.out HI.out (by (repeat (first | with_reducible exact KeptBut.refl _ _ | with_reducible refine KeptBut.ex ?_ _ | with_reducible refine KeptBut.al ?_ _ | with_reducible refine KeptBut.set' ?_ _ _)))
              · rw [show M.S.qMove A B D C = true by unfold MdS.qMove MdS.isC MdS.isA; rw [hy, hu, hf, hh]; simp [h2, h1, ha, h3]]
                have b4 : (av == B) = false := by simpa using h3
                clear hy hu hf hh h1 h2 h3 ha
                go_enter Tryz.func8, Tryz.ntmps8
                go_wp2
                first | with_reducible refine wp_region_ext2 (by kernel_rfl) (by kernel_rfl) ?_ | refine wp_region_ext (by kernel_rfl) (by kernel_rfl) ?_
                repeat (go_big_quiet_step (fail))
                refine wpQuiet_nil ?_
                rintro _ ⟨z, rfl⟩
                go_wp2
                first | with_reducible refine wp_region_ext2 (by kernel_rfl) (by kernel_rfl) ?_ | refine wp_region_ext (by kernel_rfl) (by kernel_rfl) ?_
                repeat (go_big_quiet_step (fail))
                refine wpQuiet_nil ?_
                rintro _ ⟨z, rfl⟩
                go_wp2_with (first | (go_at_call 56; refine (FC.out _ (by (repeat (first | with_reducible exact Below.rf _ | with_reducible exact World.below_ext _ _ | with_reducible refine Below.ex ?_ _ | with_reducible refine Below.al ?_ _ | with_reducible refine Below.setCell ?_ (by simp) _ | with_reducible refine Below.drew ?_)))).mono ?_; rintro e w' ⟨rfl, z3, rfl⟩) | (go_at_call 55; refine hold ?_) | (first | (go_at_call 49; refine (VR.out _ (by (repeat (first | with_reducible exact Below.rf _ | with_reducible exact World.below_ext _ _ | with_reducible refine Below.ex ?_ _ | with_reducible refine Below.al ?_ _ | with_reducible refine Below.setCell ?_ (by simp) _ | with_reducible refine Below.drew ?_)))).mono ?_; rintro e w' ⟨rfl, hw'⟩; obtain rfl := hw') | (go_at_call 51; refine (VC.out _ (by (repeat (first | with_reducible exact Below.rf _ | with_reducible exact World.below_ext _ _ | with_reducible refine Below.ex ?_ _ | with_reducible refine Below.al ?_ _ | with_reducible refine Below.setCell ?_ (by simp) _ | with_reducible refine Below.drew ?_)))).mono ?_; rintro e w' ⟨rfl, hw'⟩; obtain rfl := hw') | (go_at_call 52; refine (VA.out _ (by (repeat (first | with_reducible exact Below.rf _ | with_reducible exact World.below_ext _ _ | with_reducible refine Below.ex ?_ _ | with_reducible refine Below.al ?_ _ | with_reducible refine Below.setCell ?_ (by simp) _ | with_reducible refine Below.drew ?_)))).mono ?_; rintro e w' ⟨rfl, hw'⟩; obtain rfl := hw') | (go_at_call 53; refine (HD.out _ (by (repeat (first | with_reducible exact Below.rf _ | with_reducible exact World.below_ext _ _ | with_reducible refine Below.ex ?_ _ | with_reducible refine Below.al ?_ _ | with_reducible refine Below.setCell ?_ (by simp) _ | with_reducible refine Below.drew ?_)))).mono ?_; rintro e w' ⟨rfl, z1, rfl⟩) | (go_at_call 54; refine (AT.out _ (by (repeat (first | with_reducible exact Below.rf _ | with_reducible exact World.below_ext _ _ | with_reducible refine Below.ex ?_ _ | with_reducible refine Below.al ?_ _ | with_reducible refine Below.setCell ?_ (by simp) _ | with_reducible refine Below.drew ?_)))).mono ?_; rintro e w' ⟨rfl, z2, rfl⟩) | (go_at_call 43; refine (mok_any _ ⟨_, _, _, rfl⟩ _).mono ?_; rintro e w' ⟨rfl, z9, rfl⟩)))
                unfold Hid
                refine (mflag_any _ _).mono ?_
                rintro e w5 ⟨⟨v, rfl, hI⟩, hB5⟩
                have f0 := hB5.cell (p := ⟨w.heap.size + 1, 0, none⟩) (by simp <;> omega)
                have f1 := hB5.cell (p := ⟨w.heap.size + 1, 1, none⟩) (by simp <;> omega)
                have f2 := hB5.frozen (p := ⟨w.heap.size + 1, 0, none⟩) (by simp <;> omega)
                have f3 := hB5.frozen (p := ⟨w.heap.size + 1, 1, none⟩) (by simp <;> omega)
                simp [go_sem, ↓IntWalk.iteOmega] at f0 f1 f2 f3
                have s5 := hB5.size
                simp at s5
                have HI := hid hI
                have HB5 := hid hB5
                obtain ⟨ao5, cap5, rfl, -⟩ := hI
                clear hB5 c0
                go_wp2
                refine bodyPost_ret (v := .agg #[.int .u8 0, .slice ao5 1 cap5]) (by simp [results, Tryz.results8, go_sem, ↓IntWalk.iteOmega, *]) rfl ?_
                exact st_finF HH.out (by (repeat (first | with_reducible exact Below.rf _ | with_reducible exact World.below_ext _ _ | with_reducible refine Below.ex ?_ _ | with_reducible refine Below.al ?_ _ | with_reducible refine Below.setCell ?_ (by simp) _ | with_reducible refine Below.drew ?_))) (by simp <;> omega) HB5.out HI.out (by (repeat (first | with_reducible exact KeptBut.refl _ _ | with_reducible refine KeptBut.ex ?_ _ | with_reducible refine KeptBut.al ?_ _ | with_reducible refine KeptBut.set' ?_ _ _)))
end Go.Proofs.Qxb6500717aGreat
