/-
  The model's Step: questions that end in a flag.
-/
import Derived.Test.Qxb6500717aGreatSt2
namespace Go.Proofs.Qxb6500717aGreat
open Go.RowKit
set_option linter.unusedSimpArgs false
set_option linter.unusedVariables false
set_option maxRecDepth 20000
set_option maxHeartbeats 4000000

/-- A step that ends in 'flag'. -/
theorem st_finF {w W w5 w6 : World} {lab : Nat → Nat} {m k : Nat} {M : ModS} {c : Int} {vals : List Int} {v : Value} (h : ModX w lab m k M) (hB : Below w.heap.size w W) (hs : w.heap.size + 1 < W.heap.size) (hB5 : Below W.heap.size W w5) (hI : IntsAt w5 W.heap.size v vals) (hkb : KeptBut (w.heap.size + 1) w5 w6) :
    stPost lab m k ((c, vals), M) w (.returned (.agg #[.int .u8 c, v])) w6 := by
  obtain ⟨V, hO, h8, h9, h7, h10⟩ := h.opens
  have s1 := hB.size
  have hB2 : Below w.heap.size w w5 := hB.trans (hB5.mono s1)
  have s5 := hB5.size
  exact st_fin (w1 := w5) (w5 := w5) h h8 h9 h7 h10 hB2 (by omega) (hO w5 hB2) (KeptBut.refl _ _) hkb h.ft (hI.of hkb.size (fun j hj hl => hkb.block j hl (by omega)) (by omega))

theorem st_freeC (A B C D : Int) (ao : Option Addr) (n cap : Nat) (lab : Nat → Nat) (m k : Nat) (M : ModS) (w : World) (h : ModX w lab m k M) (hh : M.S.has = true) : Calls Tryz.prog 8 #[.pointer (some ⟨m, 0, none⟩), .agg #[.int .i64 (9), .int .i64 (A), .int .i64 (B), .int .i64 (C), .int .i64 (D), .slice ao n cap]] w (stPost lab m k (((0, [fl (M.S.freeC A B C)]), M)) w) := by
  have HH := hid h
  obtain ⟨V, hO, h8, h9, h7, h10⟩ := h.opens
  have HO := hid hO
  have H8 := hid h8
  have H9 := hid h9
  have H7 := hid h7
  have H10 := hid h10
  have c0 := (hO w (Below.rf _)).rd.c0
  rw [hh] at c0
  have lt := (hO w (Below.rf _)).rd.lt
  clear h hO h8 h9 h7 h10 hh
  have FC := hid (fun w1 (hB : Below w.heap.size w w1) => mfreeC_any m M.S A B C w1 (HO.out w1 hB).rd)
  generalize M.S.freeC A B C = res at *
  go_enter Tryz.func8, Tryz.ntmps8
  go_wp2
  first | with_reducible refine wp_region_ext2 (by kernel_rfl) (by kernel_rfl) ?_ | refine wp_region_ext (by kernel_rfl) (by kernel_rfl) ?_
  repeat (go_big_quiet_step (fail))
  refine wpQuiet_nil ?_
  rintro _ ⟨z, rfl⟩
  go_wp2_with (first | (go_at_call 56; refine (FC.out _ (by (repeat (first | with_reducible exact Below.rf _ | with_reducible exact World.below_ext _ _ | with_reducible refine Below.ex ?_ _ | with_reducible refine Below.al ?_ _ | with_reducible refine Below.setCell ?_ (by simp) _ | with_reducible refine Below.drew ?_)))).mono ?_; rintro e w' ⟨rfl, z1, rfl⟩) | (go_at_call 55; refine hold ?_))
  unfold Hid
  refine (mflag_any _ _).mono ?_
  rintro e w5 ⟨⟨v, rfl, hI⟩, hB5⟩
  have f0 := hB5.cell (p := ⟨w.heap.size + 1, 0, none⟩) (by simp <;> omega)
  have f1 := hB5.cell (p := ⟨w.heap.size + 1, 1, none⟩) (by simp <;> omega)
  have f2 := hB5.frozen (p := ⟨w.heap.size + 1, 0, none⟩) (by simp <;> omega)
  have f3 := hB5.frozen (p := ⟨w.heap.size + 1, 1, none⟩) (by simp <;> omega)
  simp [go_sem, ↓IntWalk.iteOmega] at f0 f1 f2 f3
  have s5 := hB5.size
  simp at s5
  have HI := hid hI
  have HB5 := hid hB5
  obtain ⟨ao5, cap5, rfl, -⟩ := hI
  clear hB5 c0
  go_wp2
  refine bodyPost_ret (v := .agg #[.int .u8 0, .slice ao5 1 cap5]) (by simp [results, Tryz.results8, go_sem, ↓IntWalk.iteOmega, *]) rfl ?_
  exact st_finF HH.out (by (repeat (first | with_reducible exact Below.rf _ | with_reducible exact World.below_ext _ _ | with_reducible refine Below.ex ?_ _ | with_reducible refine Below.al ?_ _ | with_reducible refine Below.setCell ?_ (by simp) _ | with_reducible refine Below.drew ?_))) (by simp <;> omega) HB5.out HI.out (by (repeat (first | with_reducible exact KeptBut.refl _ _ | with_reducible refine KeptBut.ex ?_ _ | with_reducible refine KeptBut.al ?_ _ | with_reducible refine KeptBut.set' ?_ _ _)))

theorem st_freeF (A B C D : Int) (ao : Option Addr) (n cap : Nat) (lab : Nat → Nat) (m k : Nat) (M : ModS) (w : World) (h : ModX w lab m k M) (hh : M.S.has = true) : Calls Tryz.prog 8 #[.pointer (some ⟨m, 0, none⟩), .agg #[.int .i64 (11), .int .i64 (A), .int .i64 (B), .int .i64 (C), .int .i64 (D), .slice ao n cap]] w (stPost lab m k (((0, [fl (M.S.qFrom A B C)]), M)) w) := by
  have HH := hid h
  obtain ⟨V, hO, h8, h9, h7, h10⟩ := h.opens
  have HO := hid hO
  have H8 := hid h8
  have H9 := hid h9
  have H7 := hid h7
  have H10 := hid h10
  have c0 := (hO w (Below.rf _)).rd.c0
  rw [hh] at c0
  have lt := (hO w (Below.rf _)).rd.lt
  clear h hO h8 h9 h7 h10 hh
  have VR := hid (fun w1 (hB : Below w.heap.size w w1) => mrobot_any m M.S A w1 (HO.out w1 hB).rd)
  have VA := hid (fun w1 (hB : Below w.heap.size w w1) => mask_any m M.S C w1 (HO.out w1 hB).rd)
  have VC := hid (fun w1 (hB : Below w.heap.size w w1) => mcell_any m M.S B w1 (HO.out w1 hB).rd)
  have FR := hid (fun w1 (hB : Below w.heap.size w w1) => mfreeF_any m M.S A B C w1 (HO.out w1 hB).rd)
  obtain ⟨res, hres⟩ : ∃ x, M.S.freeF A B C = x := ⟨_, rfl⟩
  simp only [hres] at FR
  obtain ⟨x, hx⟩ : ∃ x, (decide (0 ≤ A) && decide (A < (M.S.nr : Int))) = x := ⟨_, rfl⟩
  obtain ⟨y, hy⟩ : ∃ x, (decide ((M.S.base : Int) ≤ C) && decide (C < 1099511627776)) = x := ⟨_, rfl⟩
  obtain ⟨u, hu⟩ : ∃ x, (decide (0 ≤ B) && decide (B < (M.S.nc : Int))) = x := ⟨_, rfl⟩
  simp only [hx] at VR ⊢
  simp only [hy] at VA ⊢
  simp only [hu] at VC ⊢
  cases x with
  | false =>
    rw [show M.S.qFrom A B C = false by unfold MdS.qFrom MdS.isR MdS.isC MdS.isA; simp [hx, hy, hu]]
    clear hx hy hu
    go_enter Tryz.func8, Tryz.ntmps8
    go_wp2
    first | with_reducible refine wp_region_ext2 (by kernel_rfl) (by kernel_rfl) ?_ | refine wp_region_ext (by kernel_rfl) (by kernel_rfl) ?_
    repeat (go_big_quiet_step (fail))
    refine wpQuiet_nil ?_
    rintro _ ⟨z, rfl⟩
    go_wp2_with (first | (go_at_call 57; refine (FR.out _ (by (repeat (first | with_reducible exact Below.rf _ | with_reducible exact World.below_ext _ _ | with_reducible refine Below.ex ?_ _ | with_reducible refine Below.al ?_ _ | with_reducible refine Below.setCell ?_ (by simp) _ | with_reducible refine Below.drew ?_)))).mono ?_; rintro e w' ⟨rfl, z1, rfl⟩) | (go_at_call 55; refine hold ?_) | (first | (go_at_call 49; refine (VR.out _ (by (repeat (first | with_reducible exact Below.rf _ | with_reducible exact World.below_ext _ _ | with_reducible refine Below.ex ?_ _ | with_reducible refine Below.al ?_ _ | with_reducible refine Below.setCell ?_ (by simp) _ | with_reducible refine Below.drew ?_)))).mono ?_; rintro e w' ⟨rfl, hw'⟩; obtain rfl := hw') | (go_at_call 51; refine (VC.out _ (by (repeat (first | with_reducible exact Below.rf _ | with_reducible exact World.below_ext _ _ | with_reducible refine Below.ex ?_ _ | with_reducible refine Below.al ?_ _ | with_reducible refine Below.setCell ?_ (by simp) _ | with_reducible refine Below.drew ?_)))).mono ?_; rintro e w' ⟨rfl, hw'⟩; obtain rfl := hw') | (go_at_call 52; refine (VA.out _ (by (repeat (first | with_reducible exact Below.rf _ | with_reducible exact World.below_ext _ _ | with_reducible refine Below.ex ?_ _ | with_reducible refine Below.al ?_ _ | with_reducible refine Below.setCell ?_ (by simp) _ | with_reducible refine Below.drew ?_)))).mono ?_; rintro e w' ⟨rfl, hw'⟩; obtain rfl := hw') | (go_at_call 53; refine (HD.out _ (by (repeat (first | with_reducible exact Below.rf _ | with_reducible exact World.below_ext _ _ | with_reducible refine Below.ex ?_ _ | with_reducible refine Below.al ?_ _ | with_reducible refine Below.setCell ?_ (by simp) _ | with_reducible refine Below.drew ?_)))).mono ?_; rintro e w' ⟨rfl, z1, rfl⟩) | (go_at_call 54; refine (AT.out _ (by (repeat (first | with_reducible exact Below.rf _ | with_reducible exact World.below_ext _ _ | with_reducible refine Below.ex ?_ _ | with_reducible refine Below.al ?_ _ | with_reducible refine Below.setCell ?_ (by simp) _ | with_reducible refine Below.drew ?_)))).mono ?_; rintro e w' ⟨rfl, z2, rfl⟩) | (go_at_call 43; refine (mok_any _ ⟨_, _, _, rfl⟩ _).mono ?_; rintro e w' ⟨rfl, z9, rfl⟩)))
    unfold Hid
    refine (mflag_any _ _).mono ?_
    rintro e w5 ⟨⟨v, rfl, hI⟩, hB5⟩
    have f0 := hB5.cell (p := ⟨w.heap.size + 1, 0, none⟩) (by simp <;> omega)
    have f1 := hB5.cell (p := ⟨w.heap.size + 1, 1, none⟩) (by simp <;> omega)
    have f2 := hB5.frozen (p := ⟨w.heap.size + 1, 0, none⟩) (by simp <;> omega)
    have f3 := hB5.frozen (p := ⟨w.heap.size + 1, 1, none⟩) (by simp <;> omega)
    simp [go_sem, ↓IntWalk.iteOmega] at f0 f1 f2 f3
    have s5 := hB5.size
    simp at s5
    have HI := hid hI
    have HB5 := hid hB5
    obtain ⟨ao5, cap5, rfl, -⟩ := hI
    clear hB5 c0
    go_wp2
    refine bodyPost_ret (v := .agg #[.int .u8 0, .slice ao5 1 cap5]) (by simp [results, Tryz.results8, go_sem, ↓IntWalk.iteOmega, *]) rfl ?_
    exact st_finF HH.out (by (repeat (first | with_reducible exact Below.rf _ | with_reducible exact World.below_ext _ _ | with_reducible refine Below.ex ?_ _ | with_reducible refine Below.al ?_ _ | with_reducible refine Below.setCell ?_ (by simp) _ | with_reducible refine Below.drew ?_))) (by simp <;> omega) HB5.out HI.out (by (repeat (first | with_reducible exact KeptBut.refl _ _ | with_reducible refine KeptBut.ex ?_ _ | with_reducible refine KeptBut.al ?_ _ | with_reducible refine KeptBut.set' ?_ _ _)))
  | true =>
    cases u with
    | false =>
      rw [show M.S.qFrom A B C = false by unfold MdS.qFrom MdS.isR MdS.isC MdS.isA; simp [hx, hy, hu]]
      clear hx hy hu
      go_enter Tryz.func8, Tryz.ntmps8
      go_wp2
      first | with_reducible refine wp_region_ext2 (by kernel_rfl) (by kernel_rfl) ?_ | refine wp_region_ext (by kernel_rfl) (by kernel_rfl) ?_
      repeat (go_big_quiet_step (fail))
      refine wpQuiet_nil ?_
      rintro _ ⟨z, rfl⟩
      go_wp2_with (first | (go_at_call 57; refine (FR.out _ (by (repeat (first | with_reducible exact Below.rf _ | with_reducible exact World.below_ext _ _ | with_reducible refine Below.ex ?_ _ | with_reducible refine Below.al ?_ _ | with_reducible refine Below.setCell ?_ (by simp) _ | with_reducible refine Below.drew ?_)))).mono ?_; rintro e w' ⟨rfl, z1, rfl⟩) | (go_at_call 55; refine hold ?_) | (first | (go_at_call 49; refine (VR.out _ (by (repeat (first | with_reducible exact Below.rf _ | with_reducible exact World.below_ext _ _ | with_reducible refine Below.ex ?_ _ | with_reducible refine Below.al ?_ _ | with_reducible refine Below.setCell ?_ (by simp) _ | with_reducible refine Below.drew ?_)))).mono ?_; rintro e w' ⟨rfl, hw'⟩; obtain rfl := hw') | (go_at_call 51; refine (VC.out _ (by (repeat (first | with_reducible exact Below.rf _ | with_reducible exact World.below_ext _ _ | with_reducible refine Below.ex ?_ _ | with_reducible refine Below.al ?_ _ | with_reducible refine Below.setCell ?_ (by simp) _ | with_reducible refine Below.drew ?_)))).mono ?_; rintro e w' ⟨rfl, hw'⟩; obtain rfl := hw') | (go_at_call 52; refine (VA.out _ (by (repeat (first | with_reducible exact Below.rf _ | with_reducible exact World.below_ext _ _ | with_reducible refine Below.ex ?_ _ | with_reducible refine Below.al ?_ _ | with_reducible refine Below.setCell ?_ (by simp) _ | with_reducible refine Below.drew ?_)))).mono ?_; rintro e w' ⟨rfl, hw'⟩; obtain rfl := hw') | (go_at_call 53; refine (HD.out _ (by (repeat (first | with_reducible exact Below.rf _ | with_reducible exact World.below_ext _ _ | with_reducible refine Below.ex ?_ _ | with_reducible refine Below.al ?_ _ | with_reducible refine Below.setCell ?_ (by simp) _ | with_reducible refine Below.drew ?_)))).mono ?_; rintro e w' ⟨rfl, z1, rfl⟩) | (go_at_call 54; refine (AT.out _ (by (repeat (first | with_reducible exact Below.rf _ | with_reducible exact World.below_ext _ _ | with_reducible refine Below.ex ?_ _ | with_reducible refine Below.al ?_ _ | with_reducible refine Below.setCell ?_ (by simp) _ | with_reducible refine Below.drew ?_)))).mono ?_; rintro e w' ⟨rfl, z2, rfl⟩) | (go_at_call 43; refine (mok_any _ ⟨_, _, _, rfl⟩ _).mono ?_; rintro e w' ⟨rfl, z9, rfl⟩)))
      unfold Hid
      refine (mflag_any _ _).mono ?_
      rintro e w5 ⟨⟨v, rfl, hI⟩, hB5⟩
      have f0 := hB5.cell (p := ⟨w.heap.size + 1, 0, none⟩) (by simp <;> omega)
      have f1 := hB5.cell (p := ⟨w.heap.size + 1, 1, none⟩) (by simp <;> omega)
      have f2 := hB5.frozen (p := ⟨w.heap.size + 1, 0, none⟩) (by simp <;> omega)
      have f3 := hB5.frozen (p := ⟨w.heap.size + 1, 1, none⟩) (by simp <;> omega)
      simp [go_sem, ↓IntWalk.iteOmega] at f0 f1 f2 f3
      have s5 := hB5.size
      simp at s5
      have HI := hid hI
      have HB5 := hid hB5
      obtain ⟨ao5, cap5, rfl, -⟩ := hI
      clear hB5 c0
      go_wp2
      refine bodyPost_ret (v := .agg #[.int .u8 0, .slice ao5 1 cap5]) (by simp [results, Tryz.results8, go_sem, ↓IntWalk.iteOmega, *]) rfl ?_
      exact st_finF HH.out (by (repeat (first | with_reducible exact Below.rf _ | with_reducible exact World.below_ext _ _ | with_reducible refine Below.ex ?_ _ | with_reducible refine Below.al ?_ _ | with_reducible refine Below.setCell ?_ (by simp) _ | with_reducible refine Below.drew ?_))) (by simp <;> omega) HB5.out HI.out (by (repeat (first | with_reducible exact KeptBut.refl _ _ | with_reducible refine KeptBut.ex ?_ _ | with_reducible refine KeptBut.al ?_ _ | with_reducible refine KeptBut.set' ?_ _ _)))
    | true =>
      cases y with
      | false =>
        rw [show M.S.qFrom A B C = false by unfold MdS.qFrom MdS.isR MdS.isC MdS.isA; simp [hx, hy, hu]]
        clear hx hy hu
        go_enter Tryz.func8, Tryz.ntmps8
        go_wp2
        first | with_reducible refine wp_region_ext2 (by kernel_rfl) (by kernel_rfl) ?_ | refine wp_region_ext (by kernel_rfl) (by kernel_rfl) ?_
        repeat (go_big_quiet_step (fail))
        refine wpQuiet_nil ?_
        rintro _ ⟨z, rfl⟩
        go_wp2_with (first | (go_at_call 57; refine (FR.out _ (by (repeat (first | with_reducible exact Below.rf _ | with_reducible exact World.below_ext _ _ | with_reducible refine Below.ex ?_ _ | with_reducible refine Below.al ?_ _ | with_reducible refine Below.setCell ?_ (by simp) _ | with_reducible refine Below.drew ?_)))).mono ?_; rintro e w' ⟨rfl, z1, rfl⟩) | (go_at_call 55; refine hold ?_) | (first | (go_at_call 49; refine (VR.out _ (by (repeat (first | with_reducible exact Below.rf _ | with_reducible exact World.below_ext _ _ | with_reducible refine Below.ex ?_ _ | with_reducible refine Below.al ?_ _ | with_reducible refine Below.setCell ?_ (by simp) _ | with_reducible refine Below.drew ?_)))).mono ?_; rintro e w' ⟨rfl, hw'⟩; obtain rfl := hw') | (go_at_call 51; refine (VC.out _ (by (repeat (first | with_reducible exact Below.rf _ | with_reducible exact World.below_ext _ _ | with_reducible refine Below.ex ?_ _ | with_reducible refine Below.al ?_ _ | with_reducible refine Below.setCell ?_ (by simp) _ | with_reducible refine Below.drew ?_)))).mono ?_; rintro e w' ⟨rfl, hw'⟩; obtain rfl := hw') | (go_at_call 52; refine (VA.out _ (by (repeat (first | with_reducible exact Below.rf _ | with_reducible exact World.below_ext _ _ | with_reducible refine Below.ex ?_ _ | with_reducible refine Below.al ?_ _ | with_reducible refine Below.setCell ?_ (by simp) _ | with_reducible refine Below.drew ?_)))).mono ?_; rintro e w' ⟨rfl, hw'⟩; obtain rfl := hw') | (go_at_call 53; refine (HD.out _ (by (repeat (first | with_reducible exact Below.rf _ | with_reducible exact World.below_ext _ _ | with_reducible refine Below.ex ?_ _ | with_reducible refine Below.al ?_ _ | with_reducible refine Below.setCell ?_ (by simp) _ | with_reducible refine Below.drew ?_)))).mono ?_; rintro e w' ⟨rfl, z1, rfl⟩) | (go_at_call 54; refine (AT.out _ (by (repeat (first | with_reducible exact Below.rf _ | with_reducible exact World.below_ext _ _ | with_reducible refine Below.ex ?_ _ | with_reducible refine Below.al ?_ _ | with_reducible refine Below.setCell ?_ (by simp) _ | with_reducible refine Below.drew ?_)))).mono ?_; rintro e w' ⟨rfl, z2, rfl⟩) | (go_at_call 43; refine (mok_any _ ⟨_, _, _, rfl⟩ _).mono ?_; rintro e w' ⟨rfl, z9, rfl⟩)))
        unfold Hid
        refine (mflag_any _ _).mono ?_
        rintro e w5 ⟨⟨v, rfl, hI⟩, hB5⟩
        have f0 := hB5.cell (p := ⟨w.heap.size + 1, 0, none⟩) (by simp <;> omega)
        have f1 := hB5.cell (p := ⟨w.heap.size + 1, 1, none⟩) (by simp <;> omega)
        have f2 := hB5.frozen (p := ⟨w.heap.size + 1, 0, none⟩) (by simp <;> omega)
        have f3 := hB5.frozen (p := ⟨w.heap.size + 1, 1, none⟩) (by simp <;> omega)
        simp [go_sem, ↓IntWalk.iteOmega] at f0 f1 f2 f3
        have s5 := hB5.size
        simp at s5
        have HI := hid hI
        have HB5 := hid hB5
        obtain ⟨ao5, cap5, rfl, -⟩ := hI
        clear hB5 c0
        go_wp2
        refine bodyPost_ret (v := .agg #[.int .u8 0, .slice ao5 1 cap5]) (by simp [results, Tryz.results8, go_sem, ↓IntWalk.iteOmega, *]) rfl ?_
        exact st_finF HH.out (by (repeat (first | with_reducible exact Below.rf _ | with_reducible exact World.below_ext _ _ | with_reducible refine Below.ex ?_ _ | with_reducible refine Below.al ?_ _ | with_reducible refine Below.setCell ?_ (by simp) _ | with_reducible refine Below.drew ?_))) (by simp <;> omega) HB5.out HI.out (by (repeat (first | with_reducible exact KeptBut.refl _ _ | with_reducible refine KeptBut.ex ?_ _ | with_reducible refine KeptBut.al ?_ _ | with_reducible refine KeptBut.set' ?_ _ _)))
      | true =>
        rw [show M.S.qFrom A B C = res by unfold MdS.qFrom MdS.isR MdS.isC MdS.isA; simp [hx, hy, hu, hres]]
        clear hx hy hu hres
        go_enter Tryz.func8, Tryz.ntmps8
        go_wp2
        first | with_reducible refine wp_region_ext2 (by kernel_rfl) (by kernel_rfl) ?_ | refine wp_region_ext (by kernel_rfl) (by kernel_rfl) ?_
        repeat (go_big_quiet_step (fail))
        refine wpQuiet_nil ?_
        rintro _ ⟨z, rfl⟩
        go_wp2_with (first | (go_at_call 57; refine (FR.out _ (by (repeat (first | with_reducible exact Below.rf _ | with_reducible exact World.below_ext _ _ | with_reducible refine Below.ex ?_ _ | with_reducible refine Below.al ?_ _ | with_reducible refine Below.setCell ?_ (by simp) _ | with_reducible refine Below.drew ?_)))).mono ?_; rintro e w' ⟨rfl, z1, rfl⟩) | (go_at_call 55; refine hold ?_) | (first | (go_at_call 49; refine (VR.out _ (by (repeat (first | with_reducible exact Below.rf _ | with_reducible exact World.below_ext _ _ | with_reducible refine Below.ex ?_ _ | with_reducible refine Below.al ?_ _ | with_reducible refine Below.setCell ?_ (by simp) _ | with_reducible refine Below.drew ?_)))).mono ?_; rintro e w' ⟨rfl, hw'⟩; obtain rfl := hw') | (go_at_call 51; refine (VC.out _ (by (repeat (first | with_reducible exact Below.rf _ | with_reducible exact World.below_ext _ _ | with_reducible refine Below.ex ?_ _ | with_reducible refine Below.al ?_ _ | with_reducible refine Below.setCell ?_ (by simp) _ | with_reducible refine Below.drew ?_)))).mono ?_; rintro e w' ⟨rfl, hw'⟩; obtain rfl := hw') | (go_at_call 52; refine (VA.out _ (by (repeat (first | with_reducible exact Below.rf _ | with_reducible exact World.below_ext _ _ | with_reducible refine Below.ex ?_ _ | with_reducible refine Below.al ?_ _ | with_reducible refine Below.setCell ?_ (by simp) _ | with_reducible refine Below.drew ?_)))).mono ?_; rintro e w' ⟨rfl, hw'⟩; obtain rfl := hw') | (go_at_call 53; refine (HD.out _ (by (repeat (first | with_reducible exact Below.rf _ | with_reducible exact World.below_ext _ _ | with_reducible refine Below.ex ?_ _ | with_reducible refine Below.al ?_ _ | with_reducible refine Below.setCell ?_ (by simp) _ | with_reducible refine Below.drew ?_)))).mono ?_; rintro e w' ⟨rfl, z1, rfl⟩) | (go_at_call 54; refine (AT.out _ (by (repeat (first | with_reducible exact Below.rf _ | with_reducible exact World.below_ext _ _ | with_reducible refine Below.ex ?_ _ | with_reducible refine Below.al ?_ _ | with_reducible refine Below.setCell ?_ (by simp) _ | with_reducible refine Below.drew ?_)))).mono ?_; rintro e w' ⟨rfl, z2, rfl⟩) | (go_at_call 43; refine (mok_any _ ⟨_, _, _, rfl⟩ _).mono ?_; rintro e w' ⟨rfl, z9, rfl⟩)))
        unfold Hid
        refine (mflag_any _ _).mono ?_
        rintro e w5 ⟨⟨v, rfl, hI⟩, hB5⟩
        have f0 := hB5.cell (p := ⟨w.heap.size + 1, 0, none⟩) (by simp <;> omega)
        have f1 := hB5.cell (p := ⟨w.heap.size + 1, 1, none⟩) (by simp <;> omega)
        have f2 := hB5.frozen (p := ⟨w.heap.size + 1, 0, none⟩) (by simp <;> omega)
        have f3 := hB5.frozen (p := ⟨w.heap.size + 1, 1, none⟩) (by simp <;> omega)
        simp [go_sem, ↓IntWalk.iteOmega] at f0 f1 f2 f3
        have s5 := hB5.size
        simp at s5
        have HI := hid hI
        have HB5 := hid hB5
        obtain ⟨ao5, cap5, rfl, -⟩ := hI
        clear hB5 c0
        go_wp2
        refine bodyPost_ret (v := .agg #[.int .u8 0, .slice ao5 1 cap5]) (by simp [results, Tryz.results8, go_sem, ↓IntWalk.iteOmega, *]) rfl ?_
        exact st_finF HH.out (by (repeat (first | with_reducible exact Below.rf _ | with_reducible exact World.below_ext _ _ | with_reducible refine Below.ex ?_ _ | with_reducible refine Below.al ?_ _ | with_reducible refine Below.setCell ?_ (by simp) _ | with_reducible refine Below.drew ?_))) (by simp <;> omega) HB5.out HI.out (by (repeat (first | with_reducible exact KeptBut.refl _ _ | with_reducible refine KeptBut.ex ?_ _ | with_reducible refine KeptBut.al ?_ _ | with_reducible refine KeptBut.set' ?_ _ _)))
end Go.Proofs.Qxb6500717aGreat
