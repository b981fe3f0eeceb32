/-
  RefusalsChangeNothing: the law.
-/
import Derived.Test.Qxb6500717aLaw7
import Derived.Test.Qxb6500717aSame
import Derived.Test.Qxb6500717aUndo
namespace Go.Proofs.Qxb6500717a
open Go.RowKit
set_option linter.unusedSimpArgs false
set_option linter.unusedVariables false
set_option maxRecDepth 20000
set_option maxHeartbeats 4000000

theorem TabS.step_no {T : TabS} (hb : TBd T) (hc : Con T) (o : Opr) (h : ¬ ((T.step o).1 = 0 ∧ o.K < 7)) : (T.step o).2 = T := by
  unfold TabS.step at h ⊢
  split
  · rename_i e
    rw [if_pos e] at h
    unfold TabS.advT
    split
    · rfl
    · rename_i h1
      split
      · rfl
      · rename_i h2
        exact absurd ⟨by unfold TabS.advC; rw [if_neg h1, if_neg h2], by omega⟩ h
  · rename_i e1
    rw [if_neg e1] at h
    split
    · rename_i e
      rw [if_pos e] at h
      exact TabS.reserve_no (fun h0 => h ⟨h0, by omega⟩)
    · rename_i e2
      rw [if_neg e2] at h
      split
      · rename_i e
        rw [if_pos e] at h
        exact TabS.path_back o.A o.C T o.L 0 T hb hc (Or.inl rfl) rfl (fun h0 => h ⟨h0, by omega⟩)
      · rename_i e3
        rw [if_neg e3] at h
        split
        · rename_i e
          rw [if_pos e] at h
          exact TabS.stand_no (fun h0 => h ⟨h0, by omega⟩)
        · rename_i e4
          rw [if_neg e4] at h
          split
          · rename_i e
            rw [if_pos e] at h
            unfold TabS.cutT at h ⊢
            split
            · rename_i e6; rw [if_pos e6] at h; exact absurd ⟨rfl, by omega⟩ h
            · rfl
          · rename_i e5
            rw [if_neg e5] at h
            split
            · rename_i e
              rw [if_pos e] at h
              unfold TabS.cutT at h ⊢
              split
              · rename_i e6; rw [if_pos e6] at h; exact absurd ⟨rfl, by omega⟩ h
              · rfl
            · split <;> rfl
theorem stepO_no {O : Option TabS} (hb : ∀ T, O = some T → TBd T ∧ Con T) (o : Opr) {c : Int} (hc : codeP O o c) (h : ¬ (c = 0 ∧ o.K < 7)) : (stepO O o).2 = O := by
  unfold codeP at hc
  unfold stepO at hc ⊢
  split
  · rename_i e
    rw [if_pos e] at hc
    have := hc (by omega)
    unfold stepNew at this ⊢
    split
    · rename_i e2; rw [if_pos e2] at this; exact absurd ⟨this, by omega⟩ h
    · rfl
  · rename_i e1
    rw [if_neg e1] at hc
    split
    · rfl
    · rename_i e2
      rw [if_neg e2] at hc
      have := hc e2
      cases O with
      | none => rfl
      | some T =>
        simp only at this ⊢
        rw [TabS.step_no (hb T rfl).1 (hb T rfl).2 o (by rw [← this]; exact h)]

theorem law6 (sb so n cap : Nat) (o : Nat → Opr) (lao : Nat → Option Addr) (llen lcap : Nat → Nat) (w : World) (hS : Scr w sb so n o lao llen lcap) (hn : n ≤ 9223372036854775807) :
    Calls Try.prog 6 #[.slice (some ⟨sb, so, none⟩) n cap] w fun e w' => e = .returned (.bool true) ∧ Below w.heap.size w w' := by
  have HS := hid hS
  have SM := hid (small_any sb so n cap o lao llen lcap w hS hn)
  clear hS
  go_enter Try.func6, Try.ntmps6
  go_wp2_with (go_at_call 9; refine hold ?_)
  unfold Hid
  refine SM.out.mono ?_
  rintro e w1 ⟨⟨b, rfl, hsm⟩, hw1⟩
  obtain rfl : w = w1 := hw1.symm
  clear hw1 SM
  cases b with
  | false =>
    go_wp2
    go_ret
    exact ⟨rfl, Below.rf _⟩
  | true =>
  obtain ⟨hn1, hn2⟩ := hsm rfl
  have HN2 := hid hn2
  clear hsm hn2
  go_wp2_with (go_at_call 10; refine hold ?_)
  unfold Hid
  refine (newDesk_any (fun _ => 0) w).mono ?_
  rintro e w2 ⟨d, lab2, rfl, hd2, hl2, hb2⟩
  have P0 := hid (show Play w w2 lab2 d 0 none from ⟨hd2, hb2, fun j hj => hl2 j hj⟩)
  clear hd2 hl2 hb2
  go_wp2
  go_loopw [14] (fun x wr => ∃ (i : Nat) (O : Option TabS) (lab : Nat → Nat), x = .int .i64 (i) ∧ i ≤ n ∧ Play w wr lab d i O) (fun x _ => n - (intOf x).toNat)
  case atStart => exact ⟨0, none, lab2, rfl, by omega, P0.out⟩
  case round =>
    obtain ⟨i, O, lab, rfl, hi, hp⟩ := hrel
    have HP := hid hp
    by_cases hlt : i < n
    · obtain ⟨q0, q1, q2, q3, q4, q5⟩ := (HS.out.below (Nat.le_refl _) hp.bl).cells i hlt
      have lsb := (HS.out.below (Nat.le_refl _) hp.bl).hsb
      obtain ⟨tv, N, S, hd, -, -, hto⟩ := hp.dk.ex
      have c0 := hd.c0
      have ld := hd.lt
      have HTO := hid hto
      clear hp hd hto
      go_wp2_with (go_at_call 25; refine hold ?_)
      unfold Hid
      refine (lookO_any lab tv O _ (HTO.out.of (by simp) (fun _ _ => rfl) (fun j hj _ => (Below.al (Below.rf _) _).block j hj))).mono ?_
      rintro e w6 ⟨ao1, ao2, cap1, cap2, tl, sl, rfl, ht, hs, hl1, hl2, hb6⟩
      obtain ⟨z1, rfl⟩ := hb6.is_ext
      have HL1 := hid hl1
      have HL2 := hid hl2
      clear hl1 hl2 hb6 c0
      go_wp2_with (go_at_call 11; refine hold ?_)
      unfold Hid
      refine (do_any (o i) (lao i) (llen i) (lcap i) lab d i O _ (HP.out.below (by (repeat (first | with_reducible exact Below.rf _ | with_reducible exact World.below_ext _ _ | with_reducible refine Below.ex ?_ _ | with_reducible refine Below.al ?_ _ | with_reducible refine Below.setCell ?_ (by simp) _ | with_reducible refine Below.drew ?_)))).dk (by omega) ((HP.out.below (by (repeat (first | with_reducible exact Below.rf _ | with_reducible exact World.below_ext _ _ | with_reducible refine Below.ex ?_ _ | with_reducible refine Below.al ?_ _ | with_reducible refine Below.setCell ?_ (by simp) _ | with_reducible refine Below.drew ?_)))).opr HS.out hlt (HN2.out i hlt))).mono ?_
      rintro e w5 ⟨c, v, lab5, rfl, hvs, hcode, hdk, hl5, hk5⟩
      obtain ⟨aoA, nA, capA, rfl⟩ := isSl_ex hvs
      have HP5 := hid ((HP.out.below (by (repeat (first | with_reducible exact Below.rf _ | with_reducible exact World.below_ext _ _ | with_reducible refine Below.ex ?_ _ | with_reducible refine Below.al ?_ _ | with_reducible refine Below.setCell ?_ (by simp) _ | with_reducible refine Below.drew ?_)))).next hdk hl5 hk5)
      have lz : ∀ j, wr.heap.size ≤ j → ¬ tagL (lab j) := fun j hj h => by rw [HP.out.dk.hl j hj] at h; unfold tagL at h; omega
      have s5 := hk5.size
      simp at s5
      have f0 := hk5.cell (b := wr.heap.size) 0 (by simp; omega) (lz _ (by omega))
      have g0 := hk5.cell (b := wr.heap.size + 1 + z1.heap.size) 0 (by simp) (lz _ (by omega))
      have g1 := hk5.cell (b := wr.heap.size + 1 + z1.heap.size) 1 (by simp) (lz _ (by omega))
      have g2 := hk5.cell (b := wr.heap.size + 1 + z1.heap.size) 2 (by simp) (lz _ (by omega))
      have g3 := hk5.cell (b := wr.heap.size + 1 + z1.heap.size) 3 (by simp) (lz _ (by omega))
      simp [go_sem, ↓IntWalk.iteOmega] at f0 g0 g1 g2 g3
      have HM1 := hid ((HL1.out.below (by (repeat (first | with_reducible exact Below.rf _ | with_reducible exact World.below_ext _ _ | with_reducible refine Below.ex ?_ _ | with_reducible refine Below.al ?_ _ | with_reducible refine Below.setCell ?_ (by simp) _ | with_reducible refine Below.drew ?_)))).of hk5.size (fun j hj1 hj2 => hk5.block j hj2 (lz j (by simp at hj1; omega))))
      have HM2 := hid ((HL2.out.below (by (repeat (first | with_reducible exact Below.rf _ | with_reducible exact World.below_ext _ _ | with_reducible refine Below.ex ?_ _ | with_reducible refine Below.al ?_ _ | with_reducible refine Below.setCell ?_ (by simp) _ | with_reducible refine Below.drew ?_)))).of hk5.size (fun j hj1 hj2 => hk5.block j hj2 (lz j (by simp at hj1; omega))))
      have HNO := hid (fun hne => stepO_no (fun T e => HP.out.dk.bd T e) (o i) hcode hne)
      clear hvs hcode hdk hl5 hk5 q0 q1 q2 q3 q4 q5 lsb lz HL1 HL2
      by_cases hc0 : c = 0
      · subst hc0
        by_cases hK : (o i).K < 7
        · clear g0 g1 g2 g3
          go_wp2
          go_roundw
          case rel => exact ⟨i + 1, _, lab5, by go_num, by omega, HP5.out.below (by (repeat (first | with_reducible exact Below.rf _ | with_reducible exact World.below_ext _ _ | with_reducible refine Below.ex ?_ _ | with_reducible refine Below.al ?_ _ | with_reducible refine Below.setCell ?_ (by simp) _ | with_reducible refine Below.drew ?_)))⟩
          case measure => simp [intOf]; omega
        · have eO := HNO.out (fun h => hK h.2)
          rw [eO] at HP5
          have bK : decide ((o i).K < 7) = false := decide_eq_false hK
          have hp5 := HP5.out
          obtain ⟨tv5, N5, S5, hd5, -, -, hto5⟩ := hp5.dk.ex
          have c0 := hd5.c0
          have HT5 := hid hto5
          have ld5 := hd5.lt
          clear hp5 hd5 hto5 eO
          go_wp2
          refine wp_region_tree 6 (fun w' => w'.cell? ⟨wr.heap.size + 1 + z1.heap.size, 0, none⟩ = some (.int .i64 (hO O)) ∧ w'.cell? ⟨wr.heap.size + 1 + z1.heap.size, 1, none⟩ = some (.int .i64 (bO O)) ∧ w'.cell? ⟨wr.heap.size + 1 + z1.heap.size, 2, none⟩ = some (.slice ao1 tl cap1) ∧ w'.cell? ⟨wr.heap.size + 1 + z1.heap.size, 3, none⟩ = some (.slice ao2 sl cap2)) (.q 5 true (.q 0 false (.q 1 false (.q 2 false (.one 3 true (.one 4 true (.one 6 false (.one 7 false .nil)))))))) (by kernel_rfl) (by kernel_rfl) (by kernel_rfl) ?_ ?_
          · simp [go_sem, ↓IntWalk.iteOmega, *]
          repeat (first | (refine wpTr_qf (v := ?_) rfl rfl ?_ ?_; rotate_left; focus (intro w; go_simp; (try (with_reducible rfl)); done); try simp only [List.getElem_toArray, List.getElem_cons_zero, List.getElem_cons_succ, Act.put, List.setIfInBounds_toArray, List.set_cons_zero, List.set_cons_succ]) | (refine wpTr_qt (v := ?_) rfl rfl ?_ ?_; rotate_left; focus (intro w hSw; (try dsimp only at hSw); go_simp; (try (with_reducible rfl)); done); try simp only [List.getElem_toArray, List.getElem_cons_zero, List.getElem_cons_succ, Act.put, List.setIfInBounds_toArray, List.set_cons_zero, List.set_cons_succ]))
          refine wpTr_one rfl rfl (fun K hK => ?_)
          go_simp
          refine hK.out _ _ (fun _ => by simp [go_sem, ↓IntWalk.iteOmega, *]) ?_
          clear hK K
          refine wpTr_one rfl rfl (fun K hK => ?_)
          go_simp
          have HB4 := hid (show Below w5.heap.size w5 (w5.alloc (.cells #[.int .u8 0, .slice aoA nA capA] 39)).drew by (repeat (first | with_reducible exact Below.rf _ | with_reducible exact World.below_ext _ _ | with_reducible refine Below.ex ?_ _ | with_reducible refine Below.al ?_ _ | with_reducible refine Below.setCell ?_ (by simp) _ | with_reducible refine Below.drew ?_)))
          refine (lookO_any lab5 tv5 O _ (HT5.out.of HB4.out.size (fun _ _ => rfl) (fun j hj _ => HB4.out.block j hj))).mono ?_
          rintro e w7 ⟨ao3, ao4, cap3, cap4, tl', sl', rfl, ht', hs', hl3, hl4, hb7⟩
          obtain rfl : tl = tl' := ht.1.symm.trans ht'.1
          obtain rfl : sl = sl' := hs.1.symm.trans hs'.1
          have HM3 := hid hl3
          have HM4 := hid hl4
          have HB5 := hid (HB4.out.trans (hb7.mono HB4.out.size))
          obtain ⟨z2, rfl⟩ := hb7.is_ext
          clear hl3 hl4 hb7
          refine hK.out _ _ (fun _ => by simp [go_sem, ↓IntWalk.iteOmega, *]) ?_
          clear hK K
          refine wpTr_one rfl rfl (fun K hK => ?_)
          go_simp
          have SY := hid (same_yes (hO O) (bO O) (tO O) (sO O) tl sl ao3 ao4 ao1 ao2 cap3 cap4 cap1 cap2 _ _ _ _ _ ht.1 hs.1 ht.2 hs.2 HM3.out HM4.out (HM1.out.below HB5.out) (HM2.out.below HB5.out))
          refine SY.out.mono ?_
          rintro e w8 ⟨rfl, hb8⟩
          refine hK.out _ _ (fun h => by cases h) ?_
          clear hK K
          have HB8 := hid (HB5.out.trans (hb8.mono HB5.out.size))
          clear hb8 SY
          refine wpTr_one rfl rfl (fun K hK => ?_)
          go_simp
          refine hK.out _ _ (fun h => by cases h) ?_
          clear hK K
          refine wpTr_nil ?_
          refine NoPanic.normal ?_
          go_wp2
          go_roundw
          case rel => exact ⟨i + 1, O, lab5, by go_num, by omega, HP5.out.below HB8.out⟩
          case measure => simp [intOf]; omega
      · have eO := HNO.out (fun h => hc0 h.1)
        rw [eO] at HP5
        have bc : (c == 0) = false := by simpa using hc0
        have hp5 := HP5.out
        obtain ⟨tv5, N5, S5, hd5, -, -, hto5⟩ := hp5.dk.ex
        have c0 := hd5.c0
        have HT5 := hid hto5
        have ld5 := hd5.lt
        clear hp5 hd5 hto5 eO
        go_wp2
        refine wp_region_tree 6 (fun w' => w'.cell? ⟨wr.heap.size + 1 + z1.heap.size, 0, none⟩ = some (.int .i64 (hO O)) ∧ w'.cell? ⟨wr.heap.size + 1 + z1.heap.size, 1, none⟩ = some (.int .i64 (bO O)) ∧ w'.cell? ⟨wr.heap.size + 1 + z1.heap.size, 2, none⟩ = some (.slice ao1 tl cap1) ∧ w'.cell? ⟨wr.heap.size + 1 + z1.heap.size, 3, none⟩ = some (.slice ao2 sl cap2)) (.q 5 true (.q 0 false (.q 1 false (.q 2 false (.one 3 true (.one 4 true (.one 6 false (.one 7 false .nil)))))))) (by kernel_rfl) (by kernel_rfl) (by kernel_rfl) ?_ ?_
        · simp [go_sem, ↓IntWalk.iteOmega, *]
        repeat (first | (refine wpTr_qf (v := ?_) rfl rfl ?_ ?_; rotate_left; focus (intro w; go_simp; (try (with_reducible rfl)); done); try simp only [List.getElem_toArray, List.getElem_cons_zero, List.getElem_cons_succ, Act.put, List.setIfInBounds_toArray, List.set_cons_zero, List.set_cons_succ]) | (refine wpTr_qt (v := ?_) rfl rfl ?_ ?_; rotate_left; focus (intro w hSw; (try dsimp only at hSw); go_simp; (try (with_reducible rfl)); done); try simp only [List.getElem_toArray, List.getElem_cons_zero, List.getElem_cons_succ, Act.put, List.setIfInBounds_toArray, List.set_cons_zero, List.set_cons_succ]))
        refine wpTr_one rfl rfl (fun K hK => ?_)
        go_simp
        refine hK.out _ _ (fun _ => by simp [go_sem, ↓IntWalk.iteOmega, *]) ?_
        clear hK K
        refine wpTr_one rfl rfl (fun K hK => ?_)
        go_simp
        have HB4 := hid (show Below w5.heap.size w5 (w5.alloc (.cells #[.int .u8 c, .slice aoA nA capA] 39)).drew by (repeat (first | with_reducible exact Below.rf _ | with_reducible exact World.below_ext _ _ | with_reducible refine Below.ex ?_ _ | with_reducible refine Below.al ?_ _ | with_reducible refine Below.setCell ?_ (by simp) _ | with_reducible refine Below.drew ?_)))
        refine (lookO_any lab5 tv5 O _ (HT5.out.of HB4.out.size (fun _ _ => rfl) (fun j hj _ => HB4.out.block j hj))).mono ?_
        rintro e w7 ⟨ao3, ao4, cap3, cap4, tl', sl', rfl, ht', hs', hl3, hl4, hb7⟩
        obtain rfl : tl = tl' := ht.1.symm.trans ht'.1
        obtain rfl : sl = sl' := hs.1.symm.trans hs'.1
        have HM3 := hid hl3
        have HM4 := hid hl4
        have HB5 := hid (HB4.out.trans (hb7.mono HB4.out.size))
        obtain ⟨z2, rfl⟩ := hb7.is_ext
        clear hl3 hl4 hb7
        refine hK.out _ _ (fun _ => by simp [go_sem, ↓IntWalk.iteOmega, *]) ?_
        clear hK K
        refine wpTr_one rfl rfl (fun K hK => ?_)
        go_simp
        have SY := hid (same_yes (hO O) (bO O) (tO O) (sO O) tl sl ao3 ao4 ao1 ao2 cap3 cap4 cap1 cap2 _ _ _ _ _ ht.1 hs.1 ht.2 hs.2 HM3.out HM4.out (HM1.out.below HB5.out) (HM2.out.below HB5.out))
        refine SY.out.mono ?_
        rintro e w8 ⟨rfl, hb8⟩
        refine hK.out _ _ (fun h => by cases h) ?_
        clear hK K
        have HB8 := hid (HB5.out.trans (hb8.mono HB5.out.size))
        clear hb8 SY
        refine wpTr_one rfl rfl (fun K hK => ?_)
        go_simp
        refine hK.out _ _ (fun h => by cases h) ?_
        clear hK K
        refine wpTr_nil ?_
        refine NoPanic.normal ?_
        go_wp2
        go_roundw
        case rel => exact ⟨i + 1, O, lab5, by go_num, by omega, HP5.out.below HB8.out⟩
        case measure => simp [intOf]; omega
    · clear hp
      go_wp2
      go_ret
      exact ⟨rfl, HP.out.bl⟩
end Go.Proofs.Qxb6500717a
