/-
  The model: Reserve.
-/
import Derived.Test.Qxb6500717aGreatMd6
namespace Go.Proofs.Qxb6500717aGreat
open Go.RowKit
set_option linter.unusedSimpArgs false
set_option linter.unusedVariables false
set_option maxRecDepth 20000
set_option maxHeartbeats 4000000

def mresPost (m : Nat) (X : Int × MdS) (V : MV) (w : World) (e : Ending) (w' : World) : Prop :=
  e = .returned (.int .u8 X.1) ∧ MdX w' m X.2 V ∧ KeptBut m w w'
theorem MdX.back {w1 w2 : World} {m : Nat} {S : MdS} {V : MV} {r c t : Nat} {v : Value} (hM : MdX w1 m (S.add r c t) V) (hb : Below w1.heap.size w1 w2) (h5 : LAz w2 V.G v S.tr.length (srow S.tr)) (hbt : S.tr.length ≤ 3000 ∧ ∀ x, x ∈ S.tr → x.1 < 6 ∧ x.2.1 < 150 ∧ x.2.2 ≤ 2000000000) : MdX (w2.setCell ⟨m, 5, none⟩ v) m S V :=
  (hM.below hb).setT (tr := S.tr) h5 hbt
theorem mres_any (m : Nat) (S : MdS) (V : MV) (r c t : Int) (w : World) (h : MdX w m S V) (hcp : S.tr.length + S.sp.length ≤ S.cap) : Calls Tryz.prog 46 #[.pointer (some ⟨m, 0, none⟩), .int .i64 (r), .int .i64 (c), .int .i64 (t)] w (mresPost m (S.reserve r c t) V w) := by
  have HH := hid h
  have PL := hid (mplace_any m S r c t w h.rd)
  by_cases hp : S.place r c t = 0
  · have hbn := h.rd.bn
    obtain ⟨h1, h2, h3, h4, h5, h6⟩ : 0 ≤ r ∧ r < (S.nr : Int) ∧ 0 ≤ c ∧ c < (S.nc : Int) ∧ (S.base : Int) ≤ t ∧ t < (S.base : Int) + 256 := by
      unfold MdS.place at hp
      split at hp
      · omega
      · next hx =>
        simp only [Bool.and_eq_false_iff, decide_eq_false_iff_not] at hx
        split at hp
        · omega
        · split at hp <;> omega
    rw [hp] at PL
    obtain ⟨r, rfl⟩ := Int.eq_ofNat_of_zero_le h1
    obtain ⟨c, rfl⟩ := Int.eq_ofNat_of_zero_le h3
    obtain ⟨t, rfl⟩ := Int.eq_ofNat_of_zero_le (show 0 ≤ t by omega)
    have AT := hid (mat_ext m S r t w h.rd)
    have HO := hid (fun w1 (hB : Below w.heap.size w w1) => mhold_ext m S c t w1 (h.rd.below hB))
    unfold MdS.reserve
    rw [if_neg (fun hx => hx hp)]
    simp only [Int.toNat_natCast]
    clear hp
    by_cases ha : S.at r t = -1
    · rw [if_neg (fun hx => hx ha)]
      rw [ha] at AT
      clear ha
      by_cases hh : S.hold c t = -1
      · rw [if_neg (fun hx => hx hh)]
        simp only [hh] at HO
        clear hh
        obtain ⟨v5, a5, b5⟩ := h.z5
        obtain ⟨ao5, cap5, rfl⟩ := b5.val
        have lt := h.rd.lt
        have f5 := h.fz 5 (by omega)
        have HC := hid hcp
        have b1 : S.tr.length ≤ 1536 := by omega
        obtain ⟨X, hX⟩ : ∃ X, (if ((S.add r c t).swapAt ((t : Int) - 1) || (S.add r c t).swapAt t) = true then ((7, S) : Int × MdS) else if S.cap < S.tr.length + 1 + S.sp.length then (8, S) else (0, S.add r c t)) = X := ⟨_, rfl⟩
        rw [hX]
        have HX := hid hX
        have HB5 := hid b5
        have A5 := hid a5
        clear h hX b5
        go_enter Tryz.func46, Tryz.ntmps46
        go_wp2_with (first | (go_at_call 78; refine PL.out.mono ?_; rintro e w ⟨rfl, rfl⟩) | (go_at_call 54; refine AT.out.mono ?_; rintro e w' ⟨rfl, z1, rfl⟩) | (go_at_call 53; refine (HO.out _ (by (repeat (first | with_reducible exact Below.rf _ | with_reducible exact World.below_ext _ _ | with_reducible refine Below.ex ?_ _ | with_reducible refine Below.al ?_ _ | with_reducible refine Below.setCell ?_ (by simp) _ | with_reducible refine Below.drew ?_)))).mono ?_; rintro e w' ⟨rfl, z2, rfl⟩) | (at_builtin; refine hold ?_))
        unfold Hid
        refine wp_appL rfl _ _ 27 rfl w.heap.size 84 (.agg #[.int .i64 (0), .int .i64 (0), .int .i64 (0)]) 3 24 Tryz.underlying27 (by kernel_rfl) rfl (by decide) _ 0 [] rfl (owns_made #[] 0 _ (by simp) (by simp) (by decide) (by simp)) (.slice ao5 S.tr.length cap5) V.G S.tr.length (srow S.tr) rfl (HB5.out.below (by (repeat (first | with_reducible exact Below.rf _ | with_reducible exact World.below_ext _ _ | with_reducible refine Below.ex ?_ _ | with_reducible refine Below.al ?_ _ | with_reducible refine Below.setCell ?_ (by simp) _ | with_reducible refine Below.drew ?_)))) (by rw [srow_len]; omega) (srow_one _) (by omega) (by omega) (by simp; omega) ?_
        intro v' w5 ho5 hb5
        have hB5 : Below w.heap.size w w5 := Below.trans (by (repeat (first | with_reducible exact Below.rf _ | with_reducible exact World.below_ext _ _ | with_reducible refine Below.ex ?_ _ | with_reducible refine Below.al ?_ _ | with_reducible refine Below.setCell ?_ (by simp) _ | with_reducible refine Below.drew ?_))) hb5
        rw [Nat.zero_add, List.nil_append] at ho5
        have a5' := cell_kq hB5 lt a5
        have f5' := froz_kq hB5 lt f5
        have lt' := Nat.lt_of_lt_of_le lt hB5.size
        have sz5 := hB5.size
        have HO5 := hid ho5
        have HB6 := hid hB5
        have sb := sz5
        clear a5 f5 lt ho5 hb5 hB5
        go_wp2_with (at_builtin; refine hold ?_)
        unfold Hid
        refine wp_app rfl _ _ 27 rfl w.heap.size 84 (.agg #[.int .i64 (0), .int .i64 (0), .int .i64 (0)]) 3 24 Tryz.underlying27 (by kernel_rfl) rfl (by decide) _ S.tr.length (srow S.tr) rfl (ownsRow_below HO5.out (by (repeat (first | with_reducible exact Below.rf _ | with_reducible exact World.below_ext _ _ | with_reducible refine Below.ex ?_ _ | with_reducible refine Below.al ?_ _ | with_reducible refine Below.setCell ?_ (by simp) _ | with_reducible refine Below.drew ?_)))) _ 0 1 1 [.int .i64 (r), .int .i64 (c), .int .i64 (t)] rfl rfl ?_ (by simp [Value.oneCell']) (by omega) (by omega) ?_ ?_
        · intro j u hj
          have hj2 := (List.getElem?_eq_some_iff.1 hj).1
          simp at hj2
          rcases (by omega : j = 0 ∨ j = 1 ∨ j = 2) with rfl | rfl | rfl <;> simp at hj <;> subst hj <;> simp [go_sem, ↓IntWalk.iteOmega]
        · simp; omega
        intro v6 w7 ho7 hb7
        obtain ⟨ao6, cap6, rfl⟩ := own_val ho7
        have hB7 : Below w.heap.size w w7 := HB6.out.trans (Below.trans (by (refine Below.mono (B := (World.heap _).size) ?_ sb; (repeat (first | with_reducible exact Below.rf _ | with_reducible exact World.below_ext _ _ | with_reducible refine Below.ex ?_ _ | with_reducible refine Below.al ?_ _ | with_reducible refine Below.setCell ?_ (by simp) _ | with_reducible refine Below.drew ?_)))) hb7)
        have a7 := cell_kq hB7 HH.out.rd.lt A5.out
        have f7 := froz_kq hB7 HH.out.rd.lt (HH.out.fz 5 (by omega))
        have lt7 := Nat.lt_of_lt_of_le HH.out.rd.lt hB7.size
        have hM7 : MdX (w7.setCell ⟨m, 5, none⟩ (.slice ao6 (S.tr.length + 1) cap6)) m (S.add r c t) V := by
          refine (HH.out.below hB7).setT ?_ ?_
          · rw [srow_app, List.length_append]
            exact LAz.own ho7 HH.out.gf
          · rw [List.length_append]
            refine ⟨by simp; omega, fun x hx => ?_⟩
            rcases List.mem_append.1 hx with hx | hx
            · exact HH.out.rd.bt.2 x hx
            · simp at hx
              subst hx
              simp only
              omega
        have HM7 := hid hM7
        have H7 := hid hB7
        have HR7 := hid ((HB5.out.below hB7))
        have hX := HX.out
        obtain ⟨b1, hb1⟩ : ∃ x, (S.add r c t).swapAt ((t : Int) - 1) = x := ⟨_, rfl⟩
        obtain ⟨b2, hb2⟩ : ∃ x, (S.add r c t).swapAt (t : Int) = x := ⟨_, rfl⟩
        have G1 := hid (fun w1 (hB : Below (w7.setCell ⟨m, 5, none⟩ (.slice ao6 (S.tr.length + 1) cap6)).heap.size (w7.setCell ⟨m, 5, none⟩ (.slice ao6 (S.tr.length + 1) cap6)) w1) => hb1 ▸ mswap_any m (S.add r c t) ((t : Int) - 1) w1 (hM7.rd.below hB) (by omega))
        have G2 := hid (fun w1 (hB : Below (w7.setCell ⟨m, 5, none⟩ (.slice ao6 (S.tr.length + 1) cap6)).heap.size (w7.setCell ⟨m, 5, none⟩ (.slice ao6 (S.tr.length + 1) cap6)) w1) => hb2 ▸ mswap_any m (S.add r c t) (t : Int) w1 (hM7.rd.below hB) (by omega))
        obtain ⟨hd, hhd⟩ : ∃ x, S.tr.length + 1 + S.sp.length = x := ⟨_, rfl⟩
        have ehd : (((S.add r c t).tr.length : Int) + (S.add r c t).sp.length) = (hd : Int) := by
          simp only [MdS.add, List.length_append, List.length_singleton]
          omega
        have G3 := hid (fun w1 (hB : Below (w7.setCell ⟨m, 5, none⟩ (.slice ao6 (S.tr.length + 1) cap6)).heap.size (w7.setCell ⟨m, 5, none⟩ (.slice ao6 (S.tr.length + 1) cap6)) w1) => ehd ▸ mheld_any m (S.add r c t) w1 (hM7.rd.below hB))
        have c3 := cell_kq hB7 HH.out.rd.lt HH.out.rd.c3
        rw [hb1, hb2, hhd] at hX
        have hhd2 : hd ≤ 4000 := by omega
        clear ho7 hb7 hB7 hM7 HX hb1 hb2 ehd hhd
        cases b1 with
        | true =>
          rw [Bool.true_or, if_pos rfl] at hX
          subst hX
          go_wp2_with (go_at_call 79; first | (with_reducible refine (G1.out _ (by (repeat (first | with_reducible exact Below.rf _ | with_reducible exact World.below_ext _ _ | with_reducible refine Below.ex ?_ _ | with_reducible refine Below.al ?_ _ | with_reducible refine Below.setCell ?_ (by simp) _ | with_reducible refine Below.drew ?_)))).mono ?_; rintro e w' ⟨rfl, z3, rfl⟩) | (with_reducible refine (G2.out _ (by (repeat (first | with_reducible exact Below.rf _ | with_reducible exact World.below_ext _ _ | with_reducible refine Below.ex ?_ _ | with_reducible refine Below.al ?_ _ | with_reducible refine Below.setCell ?_ (by simp) _ | with_reducible refine Below.drew ?_)))).mono ?_; rintro e w' ⟨rfl, z4, rfl⟩))
          go_ret
          (refine ⟨rfl, (HM7.out.back (Below.rf _) (HR7.out.kept HH.out.gm ((KeptBut.refl _ _).set' _ _)) HH.out.rd.bt).below (by (repeat (first | with_reducible exact Below.rf _ | with_reducible exact World.below_ext _ _ | with_reducible refine Below.ex ?_ _ | with_reducible refine Below.al ?_ _ | with_reducible refine Below.setCell ?_ (by simp) _ | with_reducible refine Below.drew ?_))), (KeptBut.of_below (B := (World.heap _).size) H7.out (Nat.le_refl _)).trans (by (repeat (first | with_reducible exact KeptBut.refl _ _ | with_reducible refine KeptBut.ex ?_ _ | with_reducible refine KeptBut.al ?_ _ | with_reducible refine KeptBut.set' ?_ _ _)))⟩)
        | false =>
          rw [Bool.false_or] at hX
          cases b2 with
          | true =>
            rw [if_pos rfl] at hX
            subst hX
            go_wp2_with (go_at_call 79; first | (with_reducible refine (G1.out _ (by (repeat (first | with_reducible exact Below.rf _ | with_reducible exact World.below_ext _ _ | with_reducible refine Below.ex ?_ _ | with_reducible refine Below.al ?_ _ | with_reducible refine Below.setCell ?_ (by simp) _ | with_reducible refine Below.drew ?_)))).mono ?_; rintro e w' ⟨rfl, z3, rfl⟩) | (with_reducible refine (G2.out _ (by (repeat (first | with_reducible exact Below.rf _ | with_reducible exact World.below_ext _ _ | with_reducible refine Below.ex ?_ _ | with_reducible refine Below.al ?_ _ | with_reducible refine Below.setCell ?_ (by simp) _ | with_reducible refine Below.drew ?_)))).mono ?_; rintro e w' ⟨rfl, z4, rfl⟩))
            go_ret
            (refine ⟨rfl, (HM7.out.back (Below.rf _) (HR7.out.kept HH.out.gm ((KeptBut.refl _ _).set' _ _)) HH.out.rd.bt).below (by (repeat (first | with_reducible exact Below.rf _ | with_reducible exact World.below_ext _ _ | with_reducible refine Below.ex ?_ _ | with_reducible refine Below.al ?_ _ | with_reducible refine Below.setCell ?_ (by simp) _ | with_reducible refine Below.drew ?_))), (KeptBut.of_below (B := (World.heap _).size) H7.out (Nat.le_refl _)).trans (by (repeat (first | with_reducible exact KeptBut.refl _ _ | with_reducible refine KeptBut.ex ?_ _ | with_reducible refine KeptBut.al ?_ _ | with_reducible refine KeptBut.set' ?_ _ _)))⟩)
          | false =>
            rw [if_neg Bool.false_ne_true] at hX
            by_cases hcap : S.cap < hd
            · rw [if_pos hcap] at hX
              subst hX
              have bq : decide (S.cap < hd) = true := decide_eq_true hcap
              go_wp2_with (go_at_call 79; first | (with_reducible refine (G1.out _ (by (repeat (first | with_reducible exact Below.rf _ | with_reducible exact World.below_ext _ _ | with_reducible refine Below.ex ?_ _ | with_reducible refine Below.al ?_ _ | with_reducible refine Below.setCell ?_ (by simp) _ | with_reducible refine Below.drew ?_)))).mono ?_; rintro e w' ⟨rfl, z3, rfl⟩) | (with_reducible refine (G2.out _ (by (repeat (first | with_reducible exact Below.rf _ | with_reducible exact World.below_ext _ _ | with_reducible refine Below.ex ?_ _ | with_reducible refine Below.al ?_ _ | with_reducible refine Below.setCell ?_ (by simp) _ | with_reducible refine Below.drew ?_)))).mono ?_; rintro e w' ⟨rfl, z4, rfl⟩))
              first | with_reducible refine wp_region_ext2 (by kernel_rfl) (by kernel_rfl) ?_ | refine wp_region_ext (by kernel_rfl) (by kernel_rfl) ?_
              repeat (go_big_quiet_step ((go_at_call 58; exact Calls.ext_of (G3.out _ (by (repeat (first | with_reducible exact Below.rf _ | with_reducible exact World.below_ext _ _ | with_reducible refine Below.ex ?_ _ | with_reducible refine Below.al ?_ _ | with_reducible refine Below.setCell ?_ (by simp) _ | with_reducible refine Below.drew ?_)))))))
              refine wpQuiet_nil ?_
              rintro _ ⟨z, rfl⟩
              go_wp2
              go_ret
              (refine ⟨rfl, (HM7.out.back (Below.rf _) (HR7.out.kept HH.out.gm ((KeptBut.refl _ _).set' _ _)) HH.out.rd.bt).below (by (repeat (first | with_reducible exact Below.rf _ | with_reducible exact World.below_ext _ _ | with_reducible refine Below.ex ?_ _ | with_reducible refine Below.al ?_ _ | with_reducible refine Below.setCell ?_ (by simp) _ | with_reducible refine Below.drew ?_))), (KeptBut.of_below (B := (World.heap _).size) H7.out (Nat.le_refl _)).trans (by (repeat (first | with_reducible exact KeptBut.refl _ _ | with_reducible refine KeptBut.ex ?_ _ | with_reducible refine KeptBut.al ?_ _ | with_reducible refine KeptBut.set' ?_ _ _)))⟩)
            · rw [if_neg hcap] at hX
              subst hX
              have bq : decide (S.cap < hd) = false := decide_eq_false hcap
              go_wp2_with (go_at_call 79; first | (with_reducible refine (G1.out _ (by (repeat (first | with_reducible exact Below.rf _ | with_reducible exact World.below_ext _ _ | with_reducible refine Below.ex ?_ _ | with_reducible refine Below.al ?_ _ | with_reducible refine Below.setCell ?_ (by simp) _ | with_reducible refine Below.drew ?_)))).mono ?_; rintro e w' ⟨rfl, z3, rfl⟩) | (with_reducible refine (G2.out _ (by (repeat (first | with_reducible exact Below.rf _ | with_reducible exact World.below_ext _ _ | with_reducible refine Below.ex ?_ _ | with_reducible refine Below.al ?_ _ | with_reducible refine Below.setCell ?_ (by simp) _ | with_reducible refine Below.drew ?_)))).mono ?_; rintro e w' ⟨rfl, z4, rfl⟩))
              first | with_reducible refine wp_region_ext2 (by kernel_rfl) (by kernel_rfl) ?_ | refine wp_region_ext (by kernel_rfl) (by kernel_rfl) ?_
              repeat (go_big_quiet_step ((go_at_call 58; exact Calls.ext_of (G3.out _ (by (repeat (first | with_reducible exact Below.rf _ | with_reducible exact World.below_ext _ _ | with_reducible refine Below.ex ?_ _ | with_reducible refine Below.al ?_ _ | with_reducible refine Below.setCell ?_ (by simp) _ | with_reducible refine Below.drew ?_)))))))
              refine wpQuiet_nil ?_
              rintro _ ⟨z, rfl⟩
              go_wp2
              go_ret
              exact ⟨rfl, HM7.out.below (by (repeat (first | with_reducible exact Below.rf _ | with_reducible exact World.below_ext _ _ | with_reducible refine Below.ex ?_ _ | with_reducible refine Below.al ?_ _ | with_reducible refine Below.setCell ?_ (by simp) _ | with_reducible refine Below.drew ?_))), (KeptBut.of_below (B := (World.heap _).size) H7.out (Nat.le_refl _)).trans (by (repeat (first | with_reducible exact KeptBut.refl _ _ | with_reducible refine KeptBut.ex ?_ _ | with_reducible refine KeptBut.al ?_ _ | with_reducible refine KeptBut.set' ?_ _ _)))⟩
      · rw [if_pos hh]
        obtain ⟨hv, hhv⟩ : ∃ x, S.hold c t = x := ⟨_, rfl⟩
        simp only [hhv] at HO hh
        have n1 : (hv != -1) = true := by simpa using hh
        have n2 : (hv == -1) = false := by simpa using hh
        clear h hhv hh
        go_enter Tryz.func46, Tryz.ntmps46
        go_wp2_with (first | (go_at_call 78; refine PL.out.mono ?_; rintro e w ⟨rfl, rfl⟩) | (go_at_call 54; refine AT.out.mono ?_; rintro e w' ⟨rfl, z1, rfl⟩) | (go_at_call 53; refine (HO.out _ (by (repeat (first | with_reducible exact Below.rf _ | with_reducible exact World.below_ext _ _ | with_reducible refine Below.ex ?_ _ | with_reducible refine Below.al ?_ _ | with_reducible refine Below.setCell ?_ (by simp) _ | with_reducible refine Below.drew ?_)))).mono ?_; rintro e w' ⟨rfl, z2, rfl⟩) | (at_builtin; refine hold ?_))
        go_ret
        exact ⟨rfl, HH.out.below (by (repeat (first | with_reducible exact Below.rf _ | with_reducible exact World.below_ext _ _ | with_reducible refine Below.ex ?_ _ | with_reducible refine Below.al ?_ _ | with_reducible refine Below.setCell ?_ (by simp) _ | with_reducible refine Below.drew ?_))), KeptBut.of_below (B := (World.heap _).size) (by (repeat (first | with_reducible exact Below.rf _ | with_reducible exact World.below_ext _ _ | with_reducible refine Below.ex ?_ _ | with_reducible refine Below.al ?_ _ | with_reducible refine Below.setCell ?_ (by simp) _ | with_reducible refine Below.drew ?_))) (Nat.le_refl _)⟩
    · rw [if_pos ha]
      obtain ⟨av, hav⟩ : ∃ x, S.at r t = x := ⟨_, rfl⟩
      rw [hav] at AT ha
      have n1 : (av != -1) = true := by simpa using ha
      have n2 : (av == -1) = false := by simpa using ha
      clear h hav ha
      go_enter Tryz.func46, Tryz.ntmps46
      go_wp2_with (first | (go_at_call 78; refine PL.out.mono ?_; rintro e w ⟨rfl, rfl⟩) | (go_at_call 54; refine AT.out.mono ?_; rintro e w' ⟨rfl, z1, rfl⟩) | (go_at_call 53; refine (HO.out _ (by (repeat (first | with_reducible exact Below.rf _ | with_reducible exact World.below_ext _ _ | with_reducible refine Below.ex ?_ _ | with_reducible refine Below.al ?_ _ | with_reducible refine Below.setCell ?_ (by simp) _ | with_reducible refine Below.drew ?_)))).mono ?_; rintro e w' ⟨rfl, z2, rfl⟩) | (at_builtin; refine hold ?_))
      go_ret
      exact ⟨rfl, HH.out.below (by (repeat (first | with_reducible exact Below.rf _ | with_reducible exact World.below_ext _ _ | with_reducible refine Below.ex ?_ _ | with_reducible refine Below.al ?_ _ | with_reducible refine Below.setCell ?_ (by simp) _ | with_reducible refine Below.drew ?_))), KeptBut.of_below (B := (World.heap _).size) (by (repeat (first | with_reducible exact Below.rf _ | with_reducible exact World.below_ext _ _ | with_reducible refine Below.ex ?_ _ | with_reducible refine Below.al ?_ _ | with_reducible refine Below.setCell ?_ (by simp) _ | with_reducible refine Below.drew ?_))) (Nat.le_refl _)⟩
  · unfold MdS.reserve
    rw [if_pos hp]
    obtain ⟨pc, hpc⟩ : ∃ x, S.place r c t = x := ⟨_, rfl⟩
    rw [hpc] at PL hp ⊢
    have n1 : (pc != 0) = true := by simpa using hp
    have n2 : (pc == 0) = false := by simpa using hp
    clear h hpc hp
    go_enter Tryz.func46, Tryz.ntmps46
    go_wp2_with (first | (go_at_call 78; refine PL.out.mono ?_; rintro e w ⟨rfl, rfl⟩) | (go_at_call 54; refine AT.out.mono ?_; rintro e w' ⟨rfl, z1, rfl⟩) | (go_at_call 53; refine (HO.out _ (by (repeat (first | with_reducible exact Below.rf _ | with_reducible exact World.below_ext _ _ | with_reducible refine Below.ex ?_ _ | with_reducible refine Below.al ?_ _ | with_reducible refine Below.setCell ?_ (by simp) _ | with_reducible refine Below.drew ?_)))).mono ?_; rintro e w' ⟨rfl, z2, rfl⟩) | (at_builtin; refine hold ?_))
    go_ret
    exact ⟨rfl, HH.out, KeptBut.refl _ _⟩
end Go.Proofs.Qxb6500717aGreat
