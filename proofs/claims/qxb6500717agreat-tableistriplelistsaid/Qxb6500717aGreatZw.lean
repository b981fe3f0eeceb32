/-
  TableIsTripleList: the law (out of Refines' law, by tools/scratch/genZw.py).
-/
import Derived.Test.Qxb6500717aGreatZm
import Derived.Test.Qxb6500717aGreatScript
namespace Go
open Go.RowKit
section
variable {P : Program} {ops : Array Oper} {md : Region.Mode} {Q : Exit → Act → World → Prop} {S : World → Prop} {m : Nat}
theorem wpTr_qg {i : Nat} {t : Tr P md ops Q S m} {a : Act} {w : World} {oi : Oper} {v : Value} (h0 : ops[i]? = some oi) (hw : Region.wanted oi (yielded ops a.tmps) = true) (hy : ∀ w, (execOp a.eval oi).run P w = .ok (.value v) w)
    (h : wpTr t (a.put oi.dst v) w) : wpTr (.q i false t) a w := ⟨oi, v, h0, Or.inl ⟨hw, fun w _ => hy w⟩, h⟩
theorem wpTr_oneg {i : Nat} {s : Bool} {t : Tr P md ops Q S m} {a : Act} {w : World} {oi : Oper} (h0 : ops[i]? = some oi) (hw : Region.wanted oi (yielded ops a.tmps) = true)
    (h : ∀ K : Act → World → Prop, Hid (∀ a' w', (s = true → S w') → wpTr t a' w' → K a' w') → oi.wp P a w K Q) : wpTr (.one i s t) a w := by
  show wpOp P ops Q i (fun a' w' => (s = true → S w') ∧ wpTr t a' w') a w
  unfold wpOp
  simp only [h0]
  rw [if_pos hw]
  exact Or.inl (h _ fun _ _ h1 h2 => ⟨h1, h2⟩)
end
end Go
namespace Go.Proofs.Qxb6500717aGreat
open Go.RowKit
set_option linter.unusedSimpArgs false
set_option linter.unusedVariables false
set_option maxRecDepth 20000
set_option maxHeartbeats 4000000
theorem ms_same {Q : DkS} {M : ModS} (hr : Rel Q M) (he : Em M.S) (hf : ∀ T, Q.O = some T → Fit T) {d1 : Array (Nat × Nat × Nat)} {d2 : Array (Nat × Nat × Nat × Nat)}
    (t1 : Sort.PermIn 0 M.S.tr.toArray.size M.S.tr.toArray d1) (t2 : Sort.SortedIn ltT 0 M.S.tr.toArray.size d1) (s1 : Sort.PermIn 0 M.S.sp.toArray.size M.S.sp.toArray d2) (s2 : Sort.SortedIn ltQ 0 M.S.sp.toArray.size d2) :
    ((M.S.tr.length : Int) + M.S.sp.length = (hO Q.O : Int)) ∧ M.S.base = bO Q.O ∧ d1.toList = tO Q.O ∧ d2.toList = sO Q.O ∧ M.S.tr.length = (tO Q.O).length ∧ M.S.sp.length = (sO Q.O).length := by
  have ht := hr.tab
  have z1 : d1.toList.length = M.S.tr.length := by have := t1.1; simpa using this
  have z2 : d2.toList.length = M.S.sp.length := by have := s1.1; simpa using this
  cases hO' : Q.O with
  | none =>
    rw [hO'] at ht
    obtain ⟨e1, e2, e3⟩ := he ht
    rw [e1] at z1
    rw [e2] at z2
    rw [e1, e2, e3]
    exact ⟨rfl, rfl, List.length_eq_zero_iff.1 z1, List.length_eq_zero_iff.1 z2, rfl, rfl⟩
  | some T =>
    rw [hO'] at ht
    have g := hf T hO'
    have e1 := ht.2.tr_sort g.bd t1 t2
    have e2 := ht.2.sp_sort g.ord s1 s2
    have e3 := ht.2.held g
    refine ⟨?_, ht.2.base, e1, e2, ?_, ?_⟩
    · show _ = (T.held : Int); rw [e3]; simp
    · show _ = T.trips.length; rw [← e1, z1]
    · show _ = T.spans.length; rw [← e2, z2]
theorem lawG3 (sp : Option Addr) (n cap : Nat) (o : Nat → Opr) (lao : Nat → Option Addr) (llen lcap : Nat → Nat) (w : World) (hS : ∀ i, i < n → ∃ sb so, sp = some ⟨sb, so, none⟩ ∧ Scr w sb so n o lao llen lcap)
    (hsmall : Calls Tryz.prog 4 #[.slice sp n cap] w fun e w' => (∃ b, e = .returned (.bool b) ∧ (b = true → n ≤ 65536 ∧ ∀ i, i < n → llen i ≤ 65536)) ∧ w' = w) :
    Calls Tryz.prog 3 #[.slice sp n cap] w fun e w' => e = .returned (.bool true) ∧ Below w.heap.size w w' := by
  have HS := hid hS
  have SM := hid hsmall
  clear hS hsmall
  go_enter Tryz.func3, Tryz.ntmps3
  go_wp2_with (go_at_call 4; refine hold ?_)
  unfold Hid
  refine SM.out.mono ?_
  rintro e w1 ⟨⟨b, rfl, hsm⟩, hw1⟩
  obtain rfl : w = w1 := hw1.symm
  clear hw1 SM
  cases b with
  | false =>
    go_wp2
    go_ret
    exact ⟨rfl, Below.rf _⟩
  | true =>
  obtain ⟨hn1, hn2⟩ := hsm rfl
  have HN2 := hid hn2
  clear hsm hn2
  go_wp2_with (go_at_call 5; refine hold ?_)
  unfold Hid
  refine (newDeskX (fun _ => 0) w).mono ?_
  rintro e w2 ⟨d, lab2, rfl, hd2, hl2, hb2⟩
  have s2 := hb2.size
  have P0 := hid (show Both w (w2.alloc (.cells #[.bool false, .int .i64 (0), .int .i64 (0), .int .i64 (0), .int .i64 (0), .slice none 0 0, .slice none 0 0, .slice none 0 0, .int .i64 (0), .int .i64 (0), .map none] 32)) (upd lab2 w2.heap.size 30) d w2.heap.size 0 dk0 md0 from
    ⟨hd2.of (by simp) (fun j hj => upd_ne _ _ (by omega)) (fun j hj _ => (Below.al (Below.rf w2) _).block j hj) (fun j hj => by simp at hj; rw [upd_ne _ _ (by omega)]; exact hd2.hl j (by omega)), ModX.made hd2.hl, hb2.trans (Below.mono (B := w2.heap.size) (by (repeat (first | with_reducible exact Below.rf _ | with_reducible exact World.below_ext _ _ | with_reducible refine Below.ex ?_ _ | with_reducible refine Below.al ?_ _ | with_reducible refine Below.setCell ?_ (by simp) _ | with_reducible refine Below.drew ?_))) s2), fun j hj => by rw [upd_ne _ _ (by omega)]; exact hl2 j hj, s2, rel0, fun T h => (by cases h), fun T h => (by cases h)⟩)
  clear hd2 hl2 hb2
  go_wp2
  go_loopw [15] (fun x wr => ∃ (i k : Nat) (Q : DkS) (M : ModS) (lab : Nat → Nat), x = .int .i64 (i) ∧ i ≤ n ∧ k ≤ i ∧ Both w wr lab d w2.heap.size k Q M ∧ Em M.S) (fun x _ => n - (intOf x).toNat)
  case atStart => exact ⟨0, 0, dk0, md0, _, rfl, by omega, Nat.le_refl _, P0.out, fun _ => ⟨rfl, rfl, rfl⟩⟩
  case round =>
    clear P0
    obtain ⟨i, k, Q, M, lab, rfl, hi, hk, hp, hem⟩ := hrel
    have HE := hid hem
    have HP := hid hp
    by_cases hlt : i < n
    · obtain ⟨sb, so, rfl, hscr0⟩ := HS.out i hlt
      obtain ⟨q0, q1, q2, q3, q4, q5⟩ := (hscr0.below (Nat.le_refl _) hp.bl).cells i hlt
      have lsb := (hscr0.below (Nat.le_refl _) hp.bl).hsb
      have hscr := hid hscr0
      clear hp hem hscr0
      by_cases hg : 14 ≤ (o i).K ∧ (o i).K ≤ 23
      · have g1 : 14 ≤ (o i).K := hg.1
        have g2 : (o i).K < 24 := by omega
        clear hg
        go_wp2
        go_roundw
        case rel => exact ⟨i + 1, k, Q, M, lab, by go_num, by omega, by omega, HP.out.below (by (repeat (first | with_reducible exact Below.rf _ | with_reducible exact World.below_ext _ _ | with_reducible refine Below.ex ?_ _ | with_reducible refine Below.al ?_ _ | with_reducible refine Below.setCell ?_ (by simp) _ | with_reducible refine Below.drew ?_))), HE.out⟩
        case measure => simp [intOf]; omega
      have HG := hid hg
      have g3 : ¬ (14 ≤ (o i).K) ∨ (14 ≤ (o i).K ∧ ¬ ((o i).K < 24)) := by omega
      clear hg
      rcases g3 with g3 | ⟨g1, g3⟩
      · skip
        go_wp2
        refine wp_region_tree 5 (fun w' => w'.cell? ⟨wr.heap.size, 0, none⟩ = some (.int .i64 ((o i).K)) ∧ w'.cell? ⟨wr.heap.size, 1, none⟩ = some (.int .i64 ((o i).A)) ∧ w'.cell? ⟨wr.heap.size, 2, none⟩ = some (.int .i64 ((o i).B)) ∧ w'.cell? ⟨wr.heap.size, 3, none⟩ = some (.int .i64 ((o i).C)) ∧ w'.cell? ⟨wr.heap.size, 4, none⟩ = some (.int .i64 ((o i).D)) ∧ w'.cell? ⟨wr.heap.size, 5, none⟩ = some (.slice (lao i) (llen i) (lcap i))) (.q 0 false (.q 3 false (.q 4 true (.one 1 true (.one 2 true (.one 5 false (.one 6 false (.one 7 false .nil)))))))) (by kernel_rfl) (by kernel_rfl) (by kernel_rfl) ?_ ?_
        · simp [go_sem, ↓IntWalk.iteOmega, *]
        repeat (first | (refine wpTr_qf (v := ?_) rfl rfl ?_ ?_; rotate_left; focus (intro w; go_simp; (try (with_reducible rfl)); done); try simp only [List.getElem_toArray, List.getElem_cons_zero, List.getElem_cons_succ, Act.put, List.setIfInBounds_toArray, List.set_cons_zero, List.set_cons_succ]) | (refine wpTr_qt (v := ?_) rfl rfl ?_ ?_; rotate_left; focus (intro w hSw; (try dsimp only at hSw); go_simp; (try (with_reducible rfl)); done); try simp only [List.getElem_toArray, List.getElem_cons_zero, List.getElem_cons_succ, Act.put, List.setIfInBounds_toArray, List.set_cons_zero, List.set_cons_succ]))
        refine wpTr_one rfl rfl (fun K hK => ?_)
        go_simp
        refine hK.out _ _ (fun _ => by simp [go_sem, ↓IntWalk.iteOmega, *]) ?_
        clear hK K
        refine wpTr_one rfl rfl (fun K hK => ?_)
        go_simp
        have hz : lab wr.heap.size = 0 := HP.out.dk.hl _ (Nat.le_refl _)
        refine (do_allX (o i) (lao i) (llen i) (lcap i) lab d k Q _ (HP.out.below (by (repeat (first | with_reducible exact Below.rf _ | with_reducible exact World.below_ext _ _ | with_reducible refine Below.ex ?_ _ | with_reducible refine Below.al ?_ _ | with_reducible refine Below.setCell ?_ (by simp) _ | with_reducible refine Below.drew ?_)))).dk (by omega) ((HP.out.below (by (repeat (first | with_reducible exact Below.rf _ | with_reducible exact World.below_ext _ _ | with_reducible refine Below.ex ?_ _ | with_reducible refine Below.al ?_ _ | with_reducible refine Below.setCell ?_ (by simp) _ | with_reducible refine Below.drew ?_)))).opr hscr.out hlt (HN2.out i hlt))).mono ?_
        rintro e w5 ⟨⟨⟨xc, xv⟩, Q'⟩, hX, v, lab5, rfl, hI5, hd5, hl5, hf5, hk5⟩
        simp only at hI5 hd5
        have nt : ¬ tagL (lab wr.heap.size) := by rw [hz]; unfold tagL; omega
        have t0 := hk5.cell (b := wr.heap.size) 0 (by simp) nt
        have t1 := hk5.cell (b := wr.heap.size) 1 (by simp) nt
        have t2 := hk5.cell (b := wr.heap.size) 2 (by simp) nt
        have t3 := hk5.cell (b := wr.heap.size) 3 (by simp) nt
        have t4 := hk5.cell (b := wr.heap.size) 4 (by simp) nt
        have t5 := hk5.cell (b := wr.heap.size) 5 (by simp) nt
        simp [go_sem, ↓IntWalk.iteOmega] at t0 t1 t2 t3 t4 t5
        have s5 := hk5.size
        simp at s5
        have hbl5 : Below w.heap.size w w5 := by
          refine ⟨hk5.os.trans (HP.out.below (by (repeat (first | with_reducible exact Below.rf _ | with_reducible exact World.below_ext _ _ | with_reducible refine Below.ex ?_ _ | with_reducible refine Below.al ?_ _ | with_reducible refine Below.setCell ?_ (by simp) _ | with_reducible refine Below.drew ?_)))).bl.os, hk5.tape.trans (HP.out.below (by (repeat (first | with_reducible exact Below.rf _ | with_reducible exact World.below_ext _ _ | with_reducible refine Below.ex ?_ _ | with_reducible refine Below.al ?_ _ | with_reducible refine Below.setCell ?_ (by simp) _ | with_reducible refine Below.drew ?_)))).bl.tape, hk5.output.trans (HP.out.below (by (repeat (first | with_reducible exact Below.rf _ | with_reducible exact World.below_ext _ _ | with_reducible refine Below.ex ?_ _ | with_reducible refine Below.al ?_ _ | with_reducible refine Below.setCell ?_ (by simp) _ | with_reducible refine Below.drew ?_)))).bl.output, ?_, fun j hj => ?_⟩
          · have := HP.out.bl.size; omega
          · rw [hk5.block j (by have := HP.out.bl.size; simp; omega) (by rw [HP.out.l0 j hj]; unfold tagL; omega)]
            exact (HP.out.below (by (repeat (first | with_reducible exact Below.rf _ | with_reducible exact World.below_ext _ _ | with_reducible refine Below.ex ?_ _ | with_reducible refine Below.al ?_ _ | with_reducible refine Below.setCell ?_ (by simp) _ | with_reducible refine Below.drew ?_)))).bl.block j hj
        have md5 : ModX w5 lab5 w2.heap.size k M := (HP.out.below (by (repeat (first | with_reducible exact Below.rf _ | with_reducible exact World.below_ext _ _ | with_reducible refine Below.ex ?_ _ | with_reducible refine Below.al ?_ _ | with_reducible refine Below.setCell ?_ (by simp) _ | with_reducible refine Below.drew ?_)))).md.of hk5.size hl5 (fun j hj h => hk5.block j hj (by unfold tagL; omega)) hd5.hl
        have L5 := hid hl5
        have HX5 := hid hX
        have HI5 := hid hI5
        have HD5 := hid hd5
        have HF5 := hid hf5
        have HM5 := hid md5
        have HB5 := hid hbl5
        refine hK.out _ _ (fun _ => ⟨t0, t1, t2, t3, t4, t5⟩) ?_
        clear hK K hl5 hX hI5 hd5 hf5 md5 hbl5 hk5 q0 q1 q2 q3 q4 q5 lsb
        refine wpTr_one rfl rfl (fun K hK => ?_)
        go_simp
        refine (st_all (o i) (lao i) (llen i) (lcap i) lab5 w2.heap.size k M _ HM5.out (by omega) (oprM HB5.out HP.out.hm hscr.out hlt (HN2.out i hlt))).mono ?_
        rintro e w7 ⟨⟨⟨yc, yv⟩, M'⟩, hY, v2, lab7, rfl, hI7, hm7, hl7, hf7, hk7⟩
        simp only at hI7 hm7
        obtain ⟨b1, b2, b3⟩ := bisim HP.out.rl HP.out.fit HP.out.dk.hp (o i) HX5.out hY
        have HE7 := hid (HE.out.step HP.out.rl b2 b3 HG.out hY)
        simp only [Prod.mk.injEq] at b1
        obtain ⟨rfl, rfl⟩ := b1
        simp only at b2 b3
        have hlen := dk_len HX5.out
        simp only at hlen
        have dk7 : DeskX w7 lab7 d (k + 1) Q' := HD5.out.of hk7.size hl7 (fun j hj ht => hk7.block j hj (by unfold tagL at ht; unfold modL; omega)) hm7.hl
        have hI5' := HI5.out.of (base' := 0) hk7.size (fun j hj hl => hk7.block j hl (by have := HF5.out j hj; unfold modL; omega)) (Nat.zero_le _)
        have BT : Both w w7 lab7 d w2.heap.size (k + 1) Q' M' := by
          refine ⟨dk7, hm7, ⟨hk7.os.trans HB5.out.os, hk7.tape.trans HB5.out.tape, hk7.output.trans HB5.out.output, Nat.le_trans HB5.out.size hk7.size, fun j hj => ?_⟩, fun j hj => ?_, HP.out.hm, b2, ?_, ?_⟩
          · have sB := HB5.out.size
            rw [hk7.block j (by omega) (by rw [L5.out j (by simp; have := HP.out.bl.size; omega), HP.out.l0 j hj]; unfold modL; omega)]
            exact HB5.out.block j hj
          · have sB := HB5.out.size
            rw [hl7 j (by omega), L5.out j (by simp; have := HP.out.bl.size; omega)]
            exact HP.out.l0 j hj
          · rw [b3]; exact HP.out.od.step (fun T e => (HP.out.dk.bd T e).1) (o i)
          · rw [b3]; exact HP.out.nc.step HP.out.od HP.out.dk.bd (o i)
        have HBT := hid BT
        have EQ := hid (equal_yes xc xv v v2 _ _ w7 hI5' hI7 (by omega))
        refine hK.out _ _ (fun h => by cases h) ?_
        clear hK K hY hI7 hm7 hl7 hf7 hk7 b2 b3 dk7 hI5' BT t0 t1 t2 t3 t4 t5
        refine wpTr_one rfl rfl (fun K hK => ?_)
        go_simp
        refine EQ.out.mono ?_
        rintro e w8 ⟨rfl, z8, rfl⟩
        refine hK.out _ _ (fun h => by cases h) ?_
        clear hK K
        refine wpTr_one rfl rfl (fun K hK => ?_)
        go_simp
        refine hK.out _ _ (fun h => by cases h) ?_
        clear hK K
        refine wpTr_nil ?_
        refine NoPanic.normal ?_
        have HB8 := hid (HBT.out.below (w' := w7.ext z8) (World.below_ext _ _))
        clear HBT EQ HX5 HI5 HD5 HF5 HM5 HB5 L5 hz nt s5 HG HE HP
        obtain ⟨w8, hw8⟩ : ∃ w8, w7.ext z8 = w8 := ⟨_, rfl⟩
        rw [hw8] at HB8
        rw [hw8]
        clear hw8
        obtain ⟨tv, N, hD8, hM8, hT8⟩ := HB8.out.dk.ex
        obtain ⟨V, hMX, -⟩ := HB8.out.md.opens
        have c0 := hD8.c0
        have ld := hD8.lt
        have mh := (hMX _ (Below.rf _)).rd.c0
        have lm := (hMX _ (Below.rf _)).rd.lt
        have HT8 := hid hT8
        have HMX := hid hMX
        have htb := HB8.out.rl.tab
        have hneq : (tv = .pointer none ∧ M'.S.has = false) ∨ (∃ a, tv = .pointer (some a) ∧ M'.S.has = true) := by
          cases hO : Q'.O with
          | none => rw [hO] at hT8 htb; exact Or.inl ⟨hT8, htb⟩
          | some T => rw [hO] at hT8 htb; obtain ⟨MM, e1, -⟩ := hT8; exact Or.inr ⟨_, e1, htb.1⟩
        clear hD8 hM8 hT8 hMX htb
        go_wp2
        rcases hneq with ⟨rfl, hh⟩ | ⟨tb, rfl, hh⟩
        · rw [hh] at mh
          refine wp_region_tree 9 (fun w' => w'.cell? ⟨w2.heap.size, 0, none⟩ = some (.bool false)) (.q 0 false (.q 1 false (.q 2 false (.q 3 true (.q 4 false (.q 5 false (.q 6 false (.one 7 true (.q 8 false (.one 9 false (.q 10 false (.q 11 false (.q 12 false (.q 13 false (.q 16 false (.one 14 false (.one 15 false (.one 17 false (.one 18 false (.one 19 false (.one 20 false .nil))))))))))))))))))))) (by kernel_rfl) (by kernel_rfl) (by kernel_rfl) ?_ ?_
          · simp [go_sem, ↓IntWalk.iteOmega, *]
          repeat (first | (refine wpTr_qf (v := ?_) rfl rfl ?_ ?_; rotate_left; focus (intro w; go_simp; (try (with_reducible rfl)); done); try simp only [List.getElem_toArray, List.getElem_cons_zero, List.getElem_cons_succ, Act.put, List.setIfInBounds_toArray, List.set_cons_zero, List.set_cons_succ]) | (refine wpTr_qt (v := ?_) rfl rfl ?_ ?_; rotate_left; focus (intro w hSw; (try dsimp only at hSw); go_simp; (try (with_reducible rfl)); done); try simp only [List.getElem_toArray, List.getElem_cons_zero, List.getElem_cons_succ, Act.put, List.setIfInBounds_toArray, List.set_cons_zero, List.set_cons_succ]))
          refine wpTr_one rfl rfl (fun K hK => ?_)
          go_simp
          refine hK.out _ _ (fun _ => by simp [go_sem, ↓IntWalk.iteOmega, *]) ?_
          clear hK K
          repeat (first | (refine wpTr_qf (v := ?_) rfl rfl ?_ ?_; rotate_left; focus (intro w; go_simp; (try (with_reducible rfl)); done); try simp only [List.getElem_toArray, List.getElem_cons_zero, List.getElem_cons_succ, Act.put, List.setIfInBounds_toArray, List.set_cons_zero, List.set_cons_succ]) | (refine wpTr_qt (v := ?_) rfl rfl ?_ ?_; rotate_left; focus (intro w hSw; (try dsimp only at hSw); go_simp; (try (with_reducible rfl)); done); try simp only [List.getElem_toArray, List.getElem_cons_zero, List.getElem_cons_succ, Act.put, List.setIfInBounds_toArray, List.set_cons_zero, List.set_cons_succ]))
          refine wpTr_one rfl rfl (fun K hK => ?_)
          go_simp
          refine hK.out _ _ (fun h => by cases h) ?_
          clear hK K
          repeat (first | (refine wpTr_qf (v := ?_) rfl rfl ?_ ?_; rotate_left; focus (intro w; go_simp; (try (with_reducible rfl)); done); try simp only [List.getElem_toArray, List.getElem_cons_zero, List.getElem_cons_succ, Act.put, List.setIfInBounds_toArray, List.set_cons_zero, List.set_cons_succ]) | (refine wpTr_qt (v := ?_) rfl rfl ?_ ?_; rotate_left; focus (intro w hSw; (try dsimp only at hSw); go_simp; (try (with_reducible rfl)); done); try simp only [List.getElem_toArray, List.getElem_cons_zero, List.getElem_cons_succ, Act.put, List.setIfInBounds_toArray, List.set_cons_zero, List.set_cons_succ]))
          repeat (refine wpTr_qg (v := ?_) rfl (by first | rfl | simp [Region.wanted, yielded, go_sem]) ?_ ?_; rotate_left; focus (intro w; go_simp; (try (with_reducible rfl)); done); try simp only [List.getElem_toArray, List.getElem_cons_zero, List.getElem_cons_succ, Act.put, List.setIfInBounds_toArray, List.set_cons_zero, List.set_cons_succ])
          refine wpTr_oneg rfl (by first | rfl | simp [Region.wanted, yielded, go_sem]) (fun K hK => ?_)
          go_simp
          refine hK.out _ _ (fun h => by cases h) ?_
          clear hK K
          refine wpTr_oneg rfl (by first | rfl | simp [Region.wanted, yielded, go_sem]) (fun K hK => ?_)
          go_simp
          refine (lookO_any lab7 _ Q'.O w8.drew (HT8.out.of (w' := w8.drew) (Nat.le_refl _) (fun _ _ => rfl) (fun _ _ _ => rfl))).mono ?_
          rintro e w9 ⟨ao1, ao2, cap1, cap2, tl, sl, ⟨rfl, ⟨ht, htm⟩, ⟨hs, hsm⟩, hl1, hl2, hb9⟩⟩
          have HB9 := hid (show Below w8.heap.size w8 w9 from ((Below.rf w8).drew).trans hb9)
          have HL1 := hid hl1
          have HL2 := hid hl2
          refine hK.out _ _ (fun h => by cases h) ?_
          clear hK K hl1 hl2 hb9
          refine wpTr_oneg rfl (by first | rfl | simp [Region.wanted, yielded, go_sem]) (fun K hK => ?_)
          go_simp
          refine (modelState_any w2.heap.size M'.S _ w9 (HMX.out w9 HB9.out)).mono ?_
          rintro e w10 ⟨p1, p2, c1, c2, d1, d2, hP⟩
          obtain ⟨e1, e2, e3, e4, e5, e6⟩ := ms_same HB8.out.rl HE7.out HB8.out.fit hP.t1 hP.t2 hP.s1 hP.s2
          have he := hP.e
          have l3 := hP.l1
          have l4 := hP.l2
          rw [e1, e2, e5, e6, ht, hs] at he
          rw [e3, e5, ht] at l3
          rw [e4, e6, hs] at l4
          subst he
          have SY := hid (same_yes (hO Q'.O) (bO Q'.O) (tO Q'.O) (sO Q'.O) tl sl ao1 ao2 p1 p2 cap1 cap2 c1 c2 _ _ _ _ w10 ht hs htm hsm (HL1.out.below hP.b) (HL2.out.below hP.b) l3 l4)
          have HB10 := hid (HB9.out.trans (hP.b.mono HB9.out.size))
          refine hK.out _ _ (fun h => by cases h) ?_
          clear hK K hP e1 e2 e3 e4 e5 e6 l3 l4
          refine wpTr_oneg rfl (by first | rfl | simp [Region.wanted, yielded, go_sem]) (fun K hK => ?_)
          go_simp
          refine SY.out.mono ?_
          rintro e w11 ⟨rfl, hb11⟩
          have HB11 := hid (HB10.out.trans (hb11.mono HB10.out.size))
          refine hK.out _ _ (fun h => by cases h) ?_
          clear hK K hb11 SY
          refine wpTr_oneg rfl (by first | rfl | simp [Region.wanted, yielded, go_sem]) (fun K hK => ?_)
          go_simp
          refine hK.out _ _ (fun h => by cases h) ?_
          clear hK K
          refine wpTr_one rfl rfl (fun K hK => ?_)
          go_simp
          refine hK.out _ _ (fun h => by cases h) ?_
          clear hK K
          refine wpTr_nil ?_
          refine NoPanic.normal ?_
          go_wp2
          go_roundw
          case rel => exact ⟨i + 1, k + 1, Q', M', lab7, by go_num, by omega, by omega, (HB8.out.below HB11.out).below (by (repeat (first | with_reducible exact Below.rf _ | with_reducible exact World.below_ext _ _ | with_reducible refine Below.ex ?_ _ | with_reducible refine Below.al ?_ _ | with_reducible refine Below.setCell ?_ (by simp) _ | with_reducible refine Below.drew ?_))), HE7.out⟩
          case measure => simp [intOf]; omega
        · rw [hh] at mh
          refine wp_region_tree 9 (fun w' => w'.cell? ⟨w2.heap.size, 0, none⟩ = some (.bool true)) (.q 0 false (.q 1 false (.q 2 false (.q 3 true (.q 4 false (.q 5 false (.q 6 false (.one 7 true (.q 8 false (.one 9 false (.q 10 false (.q 11 false (.q 12 false (.q 13 false (.q 16 false (.one 14 false (.one 15 false (.one 17 false (.one 18 false (.one 19 false (.one 20 false .nil))))))))))))))))))))) (by kernel_rfl) (by kernel_rfl) (by kernel_rfl) ?_ ?_
          · simp [go_sem, ↓IntWalk.iteOmega, *]
          repeat (first | (refine wpTr_qf (v := ?_) rfl rfl ?_ ?_; rotate_left; focus (intro w; go_simp; (try (with_reducible rfl)); done); try simp only [List.getElem_toArray, List.getElem_cons_zero, List.getElem_cons_succ, Act.put, List.setIfInBounds_toArray, List.set_cons_zero, List.set_cons_succ]) | (refine wpTr_qt (v := ?_) rfl rfl ?_ ?_; rotate_left; focus (intro w hSw; (try dsimp only at hSw); go_simp; (try (with_reducible rfl)); done); try simp only [List.getElem_toArray, List.getElem_cons_zero, List.getElem_cons_succ, Act.put, List.setIfInBounds_toArray, List.set_cons_zero, List.set_cons_succ]))
          refine wpTr_one rfl rfl (fun K hK => ?_)
          go_simp
          refine hK.out _ _ (fun _ => by simp [go_sem, ↓IntWalk.iteOmega, *]) ?_
          clear hK K
          repeat (first | (refine wpTr_qf (v := ?_) rfl rfl ?_ ?_; rotate_left; focus (intro w; go_simp; (try (with_reducible rfl)); done); try simp only [List.getElem_toArray, List.getElem_cons_zero, List.getElem_cons_succ, Act.put, List.setIfInBounds_toArray, List.set_cons_zero, List.set_cons_succ]) | (refine wpTr_qt (v := ?_) rfl rfl ?_ ?_; rotate_left; focus (intro w hSw; (try dsimp only at hSw); go_simp; (try (with_reducible rfl)); done); try simp only [List.getElem_toArray, List.getElem_cons_zero, List.getElem_cons_succ, Act.put, List.setIfInBounds_toArray, List.set_cons_zero, List.set_cons_succ]))
          refine wpTr_one rfl rfl (fun K hK => ?_)
          go_simp
          refine hK.out _ _ (fun h => by cases h) ?_
          clear hK K
          repeat (first | (refine wpTr_qf (v := ?_) rfl rfl ?_ ?_; rotate_left; focus (intro w; go_simp; (try (with_reducible rfl)); done); try simp only [List.getElem_toArray, List.getElem_cons_zero, List.getElem_cons_succ, Act.put, List.setIfInBounds_toArray, List.set_cons_zero, List.set_cons_succ]) | (refine wpTr_qt (v := ?_) rfl rfl ?_ ?_; rotate_left; focus (intro w hSw; (try dsimp only at hSw); go_simp; (try (with_reducible rfl)); done); try simp only [List.getElem_toArray, List.getElem_cons_zero, List.getElem_cons_succ, Act.put, List.setIfInBounds_toArray, List.set_cons_zero, List.set_cons_succ]))
          repeat (refine wpTr_qg (v := ?_) rfl (by first | rfl | simp [Region.wanted, yielded, go_sem]) ?_ ?_; rotate_left; focus (intro w; go_simp; (try (with_reducible rfl)); done); try simp only [List.getElem_toArray, List.getElem_cons_zero, List.getElem_cons_succ, Act.put, List.setIfInBounds_toArray, List.set_cons_zero, List.set_cons_succ])
          refine wpTr_oneg rfl (by first | rfl | simp [Region.wanted, yielded, go_sem]) (fun K hK => ?_)
          go_simp
          refine hK.out _ _ (fun h => by cases h) ?_
          clear hK K
          refine wpTr_oneg rfl (by first | rfl | simp [Region.wanted, yielded, go_sem]) (fun K hK => ?_)
          go_simp
          refine (lookO_any lab7 _ Q'.O w8.drew (HT8.out.of (w' := w8.drew) (Nat.le_refl _) (fun _ _ => rfl) (fun _ _ _ => rfl))).mono ?_
          rintro e w9 ⟨ao1, ao2, cap1, cap2, tl, sl, ⟨rfl, ⟨ht, htm⟩, ⟨hs, hsm⟩, hl1, hl2, hb9⟩⟩
          have HB9 := hid (show Below w8.heap.size w8 w9 from ((Below.rf w8).drew).trans hb9)
          have HL1 := hid hl1
          have HL2 := hid hl2
          refine hK.out _ _ (fun h => by cases h) ?_
          clear hK K hl1 hl2 hb9
          refine wpTr_oneg rfl (by first | rfl | simp [Region.wanted, yielded, go_sem]) (fun K hK => ?_)
          go_simp
          refine (modelState_any w2.heap.size M'.S _ w9 (HMX.out w9 HB9.out)).mono ?_
          rintro e w10 ⟨p1, p2, c1, c2, d1, d2, hP⟩
          obtain ⟨e1, e2, e3, e4, e5, e6⟩ := ms_same HB8.out.rl HE7.out HB8.out.fit hP.t1 hP.t2 hP.s1 hP.s2
          have he := hP.e
          have l3 := hP.l1
          have l4 := hP.l2
          rw [e1, e2, e5, e6, ht, hs] at he
          rw [e3, e5, ht] at l3
          rw [e4, e6, hs] at l4
          subst he
          have SY := hid (same_yes (hO Q'.O) (bO Q'.O) (tO Q'.O) (sO Q'.O) tl sl ao1 ao2 p1 p2 cap1 cap2 c1 c2 _ _ _ _ w10 ht hs htm hsm (HL1.out.below hP.b) (HL2.out.below hP.b) l3 l4)
          have HB10 := hid (HB9.out.trans (hP.b.mono HB9.out.size))
          refine hK.out _ _ (fun h => by cases h) ?_
          clear hK K hP e1 e2 e3 e4 e5 e6 l3 l4
          refine wpTr_oneg rfl (by first | rfl | simp [Region.wanted, yielded, go_sem]) (fun K hK => ?_)
          go_simp
          refine SY.out.mono ?_
          rintro e w11 ⟨rfl, hb11⟩
          have HB11 := hid (HB10.out.trans (hb11.mono HB10.out.size))
          refine hK.out _ _ (fun h => by cases h) ?_
          clear hK K hb11 SY
          refine wpTr_oneg rfl (by first | rfl | simp [Region.wanted, yielded, go_sem]) (fun K hK => ?_)
          go_simp
          refine hK.out _ _ (fun h => by cases h) ?_
          clear hK K
          refine wpTr_one rfl rfl (fun K hK => ?_)
          go_simp
          refine hK.out _ _ (fun h => by cases h) ?_
          clear hK K
          refine wpTr_nil ?_
          refine NoPanic.normal ?_
          go_wp2
          go_roundw
          case rel => exact ⟨i + 1, k + 1, Q', M', lab7, by go_num, by omega, by omega, (HB8.out.below HB11.out).below (by (repeat (first | with_reducible exact Below.rf _ | with_reducible exact World.below_ext _ _ | with_reducible refine Below.ex ?_ _ | with_reducible refine Below.al ?_ _ | with_reducible refine Below.setCell ?_ (by simp) _ | with_reducible refine Below.drew ?_))), HE7.out⟩
          case measure => simp [intOf]; omega
      · skip
        go_wp2
        refine wp_region_tree 5 (fun w' => w'.cell? ⟨wr.heap.size, 0, none⟩ = some (.int .i64 ((o i).K)) ∧ w'.cell? ⟨wr.heap.size, 1, none⟩ = some (.int .i64 ((o i).A)) ∧ w'.cell? ⟨wr.heap.size, 2, none⟩ = some (.int .i64 ((o i).B)) ∧ w'.cell? ⟨wr.heap.size, 3, none⟩ = some (.int .i64 ((o i).C)) ∧ w'.cell? ⟨wr.heap.size, 4, none⟩ = some (.int .i64 ((o i).D)) ∧ w'.cell? ⟨wr.heap.size, 5, none⟩ = some (.slice (lao i) (llen i) (lcap i))) (.q 0 false (.q 3 false (.q 4 true (.one 1 true (.one 2 true (.one 5 false (.one 6 false (.one 7 false .nil)))))))) (by kernel_rfl) (by kernel_rfl) (by kernel_rfl) ?_ ?_
        · simp [go_sem, ↓IntWalk.iteOmega, *]
        repeat (first | (refine wpTr_qf (v := ?_) rfl rfl ?_ ?_; rotate_left; focus (intro w; go_simp; (try (with_reducible rfl)); done); try simp only [List.getElem_toArray, List.getElem_cons_zero, List.getElem_cons_succ, Act.put, List.setIfInBounds_toArray, List.set_cons_zero, List.set_cons_succ]) | (refine wpTr_qt (v := ?_) rfl rfl ?_ ?_; rotate_left; focus (intro w hSw; (try dsimp only at hSw); go_simp; (try (with_reducible rfl)); done); try simp only [List.getElem_toArray, List.getElem_cons_zero, List.getElem_cons_succ, Act.put, List.setIfInBounds_toArray, List.set_cons_zero, List.set_cons_succ]))
        refine wpTr_one rfl rfl (fun K hK => ?_)
        go_simp
        refine hK.out _ _ (fun _ => by simp [go_sem, ↓IntWalk.iteOmega, *]) ?_
        clear hK K
        refine wpTr_one rfl rfl (fun K hK => ?_)
        go_simp
        have hz : lab wr.heap.size = 0 := HP.out.dk.hl _ (Nat.le_refl _)
        refine (do_allX (o i) (lao i) (llen i) (lcap i) lab d k Q _ (HP.out.below (by (repeat (first | with_reducible exact Below.rf _ | with_reducible exact World.below_ext _ _ | with_reducible refine Below.ex ?_ _ | with_reducible refine Below.al ?_ _ | with_reducible refine Below.setCell ?_ (by simp) _ | with_reducible refine Below.drew ?_)))).dk (by omega) ((HP.out.below (by (repeat (first | with_reducible exact Below.rf _ | with_reducible exact World.below_ext _ _ | with_reducible refine Below.ex ?_ _ | with_reducible refine Below.al ?_ _ | with_reducible refine Below.setCell ?_ (by simp) _ | with_reducible refine Below.drew ?_)))).opr hscr.out hlt (HN2.out i hlt))).mono ?_
        rintro e w5 ⟨⟨⟨xc, xv⟩, Q'⟩, hX, v, lab5, rfl, hI5, hd5, hl5, hf5, hk5⟩
        simp only at hI5 hd5
        have nt : ¬ tagL (lab wr.heap.size) := by rw [hz]; unfold tagL; omega
        have t0 := hk5.cell (b := wr.heap.size) 0 (by simp) nt
        have t1 := hk5.cell (b := wr.heap.size) 1 (by simp) nt
        have t2 := hk5.cell (b := wr.heap.size) 2 (by simp) nt
        have t3 := hk5.cell (b := wr.heap.size) 3 (by simp) nt
        have t4 := hk5.cell (b := wr.heap.size) 4 (by simp) nt
        have t5 := hk5.cell (b := wr.heap.size) 5 (by simp) nt
        simp [go_sem, ↓IntWalk.iteOmega] at t0 t1 t2 t3 t4 t5
        have s5 := hk5.size
        simp at s5
        have hbl5 : Below w.heap.size w w5 := by
          refine ⟨hk5.os.trans (HP.out.below (by (repeat (first | with_reducible exact Below.rf _ | with_reducible exact World.below_ext _ _ | with_reducible refine Below.ex ?_ _ | with_reducible refine Below.al ?_ _ | with_reducible refine Below.setCell ?_ (by simp) _ | with_reducible refine Below.drew ?_)))).bl.os, hk5.tape.trans (HP.out.below (by (repeat (first | with_reducible exact Below.rf _ | with_reducible exact World.below_ext _ _ | with_reducible refine Below.ex ?_ _ | with_reducible refine Below.al ?_ _ | with_reducible refine Below.setCell ?_ (by simp) _ | with_reducible refine Below.drew ?_)))).bl.tape, hk5.output.trans (HP.out.below (by (repeat (first | with_reducible exact Below.rf _ | with_reducible exact World.below_ext _ _ | with_reducible refine Below.ex ?_ _ | with_reducible refine Below.al ?_ _ | with_reducible refine Below.setCell ?_ (by simp) _ | with_reducible refine Below.drew ?_)))).bl.output, ?_, fun j hj => ?_⟩
          · have := HP.out.bl.size; omega
          · rw [hk5.block j (by have := HP.out.bl.size; simp; omega) (by rw [HP.out.l0 j hj]; unfold tagL; omega)]
            exact (HP.out.below (by (repeat (first | with_reducible exact Below.rf _ | with_reducible exact World.below_ext _ _ | with_reducible refine Below.ex ?_ _ | with_reducible refine Below.al ?_ _ | with_reducible refine Below.setCell ?_ (by simp) _ | with_reducible refine Below.drew ?_)))).bl.block j hj
        have md5 : ModX w5 lab5 w2.heap.size k M := (HP.out.below (by (repeat (first | with_reducible exact Below.rf _ | with_reducible exact World.below_ext _ _ | with_reducible refine Below.ex ?_ _ | with_reducible refine Below.al ?_ _ | with_reducible refine Below.setCell ?_ (by simp) _ | with_reducible refine Below.drew ?_)))).md.of hk5.size hl5 (fun j hj h => hk5.block j hj (by unfold tagL; omega)) hd5.hl
        have L5 := hid hl5
        have HX5 := hid hX
        have HI5 := hid hI5
        have HD5 := hid hd5
        have HF5 := hid hf5
        have HM5 := hid md5
        have HB5 := hid hbl5
        refine hK.out _ _ (fun _ => ⟨t0, t1, t2, t3, t4, t5⟩) ?_
        clear hK K hl5 hX hI5 hd5 hf5 md5 hbl5 hk5 q0 q1 q2 q3 q4 q5 lsb
        refine wpTr_one rfl rfl (fun K hK => ?_)
        go_simp
        refine (st_all (o i) (lao i) (llen i) (lcap i) lab5 w2.heap.size k M _ HM5.out (by omega) (oprM HB5.out HP.out.hm hscr.out hlt (HN2.out i hlt))).mono ?_
        rintro e w7 ⟨⟨⟨yc, yv⟩, M'⟩, hY, v2, lab7, rfl, hI7, hm7, hl7, hf7, hk7⟩
        simp only at hI7 hm7
        obtain ⟨b1, b2, b3⟩ := bisim HP.out.rl HP.out.fit HP.out.dk.hp (o i) HX5.out hY
        have HE7 := hid (HE.out.step HP.out.rl b2 b3 HG.out hY)
        simp only [Prod.mk.injEq] at b1
        obtain ⟨rfl, rfl⟩ := b1
        simp only at b2 b3
        have hlen := dk_len HX5.out
        simp only at hlen
        have dk7 : DeskX w7 lab7 d (k + 1) Q' := HD5.out.of hk7.size hl7 (fun j hj ht => hk7.block j hj (by unfold tagL at ht; unfold modL; omega)) hm7.hl
        have hI5' := HI5.out.of (base' := 0) hk7.size (fun j hj hl => hk7.block j hl (by have := HF5.out j hj; unfold modL; omega)) (Nat.zero_le _)
        have BT : Both w w7 lab7 d w2.heap.size (k + 1) Q' M' := by
          refine ⟨dk7, hm7, ⟨hk7.os.trans HB5.out.os, hk7.tape.trans HB5.out.tape, hk7.output.trans HB5.out.output, Nat.le_trans HB5.out.size hk7.size, fun j hj => ?_⟩, fun j hj => ?_, HP.out.hm, b2, ?_, ?_⟩
          · have sB := HB5.out.size
            rw [hk7.block j (by omega) (by rw [L5.out j (by simp; have := HP.out.bl.size; omega), HP.out.l0 j hj]; unfold modL; omega)]
            exact HB5.out.block j hj
          · have sB := HB5.out.size
            rw [hl7 j (by omega), L5.out j (by simp; have := HP.out.bl.size; omega)]
            exact HP.out.l0 j hj
          · rw [b3]; exact HP.out.od.step (fun T e => (HP.out.dk.bd T e).1) (o i)
          · rw [b3]; exact HP.out.nc.step HP.out.od HP.out.dk.bd (o i)
        have HBT := hid BT
        have EQ := hid (equal_yes xc xv v v2 _ _ w7 hI5' hI7 (by omega))
        refine hK.out _ _ (fun h => by cases h) ?_
        clear hK K hY hI7 hm7 hl7 hf7 hk7 b2 b3 dk7 hI5' BT t0 t1 t2 t3 t4 t5
        refine wpTr_one rfl rfl (fun K hK => ?_)
        go_simp
        refine EQ.out.mono ?_
        rintro e w8 ⟨rfl, z8, rfl⟩
        refine hK.out _ _ (fun h => by cases h) ?_
        clear hK K
        refine wpTr_one rfl rfl (fun K hK => ?_)
        go_simp
        refine hK.out _ _ (fun h => by cases h) ?_
        clear hK K
        refine wpTr_nil ?_
        refine NoPanic.normal ?_
        have HB8 := hid (HBT.out.below (w' := w7.ext z8) (World.below_ext _ _))
        clear HBT EQ HX5 HI5 HD5 HF5 HM5 HB5 L5 hz nt s5 HG HE HP
        obtain ⟨w8, hw8⟩ : ∃ w8, w7.ext z8 = w8 := ⟨_, rfl⟩
        rw [hw8] at HB8
        rw [hw8]
        clear hw8
        obtain ⟨tv, N, hD8, hM8, hT8⟩ := HB8.out.dk.ex
        obtain ⟨V, hMX, -⟩ := HB8.out.md.opens
        have c0 := hD8.c0
        have ld := hD8.lt
        have mh := (hMX _ (Below.rf _)).rd.c0
        have lm := (hMX _ (Below.rf _)).rd.lt
        have HT8 := hid hT8
        have HMX := hid hMX
        have htb := HB8.out.rl.tab
        have hneq : (tv = .pointer none ∧ M'.S.has = false) ∨ (∃ a, tv = .pointer (some a) ∧ M'.S.has = true) := by
          cases hO : Q'.O with
          | none => rw [hO] at hT8 htb; exact Or.inl ⟨hT8, htb⟩
          | some T => rw [hO] at hT8 htb; obtain ⟨MM, e1, -⟩ := hT8; exact Or.inr ⟨_, e1, htb.1⟩
        clear hD8 hM8 hT8 hMX htb
        go_wp2
        rcases hneq with ⟨rfl, hh⟩ | ⟨tb, rfl, hh⟩
        · rw [hh] at mh
          refine wp_region_tree 9 (fun w' => w'.cell? ⟨w2.heap.size, 0, none⟩ = some (.bool false)) (.q 0 false (.q 1 false (.q 2 false (.q 3 true (.q 4 false (.q 5 false (.q 6 false (.one 7 true (.q 8 false (.one 9 false (.q 10 false (.q 11 false (.q 12 false (.q 13 false (.q 16 false (.one 14 false (.one 15 false (.one 17 false (.one 18 false (.one 19 false (.one 20 false .nil))))))))))))))))))))) (by kernel_rfl) (by kernel_rfl) (by kernel_rfl) ?_ ?_
          · simp [go_sem, ↓IntWalk.iteOmega, *]
          repeat (first | (refine wpTr_qf (v := ?_) rfl rfl ?_ ?_; rotate_left; focus (intro w; go_simp; (try (with_reducible rfl)); done); try simp only [List.getElem_toArray, List.getElem_cons_zero, List.getElem_cons_succ, Act.put, List.setIfInBounds_toArray, List.set_cons_zero, List.set_cons_succ]) | (refine wpTr_qt (v := ?_) rfl rfl ?_ ?_; rotate_left; focus (intro w hSw; (try dsimp only at hSw); go_simp; (try (with_reducible rfl)); done); try simp only [List.getElem_toArray, List.getElem_cons_zero, List.getElem_cons_succ, Act.put, List.setIfInBounds_toArray, List.set_cons_zero, List.set_cons_succ]))
          refine wpTr_one rfl rfl (fun K hK => ?_)
          go_simp
          refine hK.out _ _ (fun _ => by simp [go_sem, ↓IntWalk.iteOmega, *]) ?_
          clear hK K
          repeat (first | (refine wpTr_qf (v := ?_) rfl rfl ?_ ?_; rotate_left; focus (intro w; go_simp; (try (with_reducible rfl)); done); try simp only [List.getElem_toArray, List.getElem_cons_zero, List.getElem_cons_succ, Act.put, List.setIfInBounds_toArray, List.set_cons_zero, List.set_cons_succ]) | (refine wpTr_qt (v := ?_) rfl rfl ?_ ?_; rotate_left; focus (intro w hSw; (try dsimp only at hSw); go_simp; (try (with_reducible rfl)); done); try simp only [List.getElem_toArray, List.getElem_cons_zero, List.getElem_cons_succ, Act.put, List.setIfInBounds_toArray, List.set_cons_zero, List.set_cons_succ]))
          refine wpTr_one rfl rfl (fun K hK => ?_)
          go_simp
          refine hK.out _ _ (fun h => by cases h) ?_
          clear hK K
          repeat (first | (refine wpTr_qf (v := ?_) rfl rfl ?_ ?_; rotate_left; focus (intro w; go_simp; (try (with_reducible rfl)); done); try simp only [List.getElem_toArray, List.getElem_cons_zero, List.getElem_cons_succ, Act.put, List.setIfInBounds_toArray, List.set_cons_zero, List.set_cons_succ]) | (refine wpTr_qt (v := ?_) rfl rfl ?_ ?_; rotate_left; focus (intro w hSw; (try dsimp only at hSw); go_simp; (try (with_reducible rfl)); done); try simp only [List.getElem_toArray, List.getElem_cons_zero, List.getElem_cons_succ, Act.put, List.setIfInBounds_toArray, List.set_cons_zero, List.set_cons_succ]))
          repeat (refine wpTr_qg (v := ?_) rfl (by first | rfl | simp [Region.wanted, yielded, go_sem]) ?_ ?_; rotate_left; focus (intro w; go_simp; (try (with_reducible rfl)); done); try simp only [List.getElem_toArray, List.getElem_cons_zero, List.getElem_cons_succ, Act.put, List.setIfInBounds_toArray, List.set_cons_zero, List.set_cons_succ])
          refine wpTr_oneg rfl (by first | rfl | simp [Region.wanted, yielded, go_sem]) (fun K hK => ?_)
          go_simp
          refine hK.out _ _ (fun h => by cases h) ?_
          clear hK K
          refine wpTr_oneg rfl (by first | rfl | simp [Region.wanted, yielded, go_sem]) (fun K hK => ?_)
          go_simp
          refine (lookO_any lab7 _ Q'.O w8.drew (HT8.out.of (w' := w8.drew) (Nat.le_refl _) (fun _ _ => rfl) (fun _ _ _ => rfl))).mono ?_
          rintro e w9 ⟨ao1, ao2, cap1, cap2, tl, sl, ⟨rfl, ⟨ht, htm⟩, ⟨hs, hsm⟩, hl1, hl2, hb9⟩⟩
          have HB9 := hid (show Below w8.heap.size w8 w9 from ((Below.rf w8).drew).trans hb9)
          have HL1 := hid hl1
          have HL2 := hid hl2
          refine hK.out _ _ (fun h => by cases h) ?_
          clear hK K hl1 hl2 hb9
          refine wpTr_oneg rfl (by first | rfl | simp [Region.wanted, yielded, go_sem]) (fun K hK => ?_)
          go_simp
          refine (modelState_any w2.heap.size M'.S _ w9 (HMX.out w9 HB9.out)).mono ?_
          rintro e w10 ⟨p1, p2, c1, c2, d1, d2, hP⟩
          obtain ⟨e1, e2, e3, e4, e5, e6⟩ := ms_same HB8.out.rl HE7.out HB8.out.fit hP.t1 hP.t2 hP.s1 hP.s2
          have he := hP.e
          have l3 := hP.l1
          have l4 := hP.l2
          rw [e1, e2, e5, e6, ht, hs] at he
          rw [e3, e5, ht] at l3
          rw [e4, e6, hs] at l4
          subst he
          have SY := hid (same_yes (hO Q'.O) (bO Q'.O) (tO Q'.O) (sO Q'.O) tl sl ao1 ao2 p1 p2 cap1 cap2 c1 c2 _ _ _ _ w10 ht hs htm hsm (HL1.out.below hP.b) (HL2.out.below hP.b) l3 l4)
          have HB10 := hid (HB9.out.trans (hP.b.mono HB9.out.size))
          refine hK.out _ _ (fun h => by cases h) ?_
          clear hK K hP e1 e2 e3 e4 e5 e6 l3 l4
          refine wpTr_oneg rfl (by first | rfl | simp [Region.wanted, yielded, go_sem]) (fun K hK => ?_)
          go_simp
          refine SY.out.mono ?_
          rintro e w11 ⟨rfl, hb11⟩
          have HB11 := hid (HB10.out.trans (hb11.mono HB10.out.size))
          refine hK.out _ _ (fun h => by cases h) ?_
          clear hK K hb11 SY
          refine wpTr_oneg rfl (by first | rfl | simp [Region.wanted, yielded, go_sem]) (fun K hK => ?_)
          go_simp
          refine hK.out _ _ (fun h => by cases h) ?_
          clear hK K
          refine wpTr_one rfl rfl (fun K hK => ?_)
          go_simp
          refine hK.out _ _ (fun h => by cases h) ?_
          clear hK K
          refine wpTr_nil ?_
          refine NoPanic.normal ?_
          go_wp2
          go_roundw
          case rel => exact ⟨i + 1, k + 1, Q', M', lab7, by go_num, by omega, by omega, (HB8.out.below HB11.out).below (by (repeat (first | with_reducible exact Below.rf _ | with_reducible exact World.below_ext _ _ | with_reducible refine Below.ex ?_ _ | with_reducible refine Below.al ?_ _ | with_reducible refine Below.setCell ?_ (by simp) _ | with_reducible refine Below.drew ?_))), HE7.out⟩
          case measure => simp [intOf]; omega
        · rw [hh] at mh
          refine wp_region_tree 9 (fun w' => w'.cell? ⟨w2.heap.size, 0, none⟩ = some (.bool true)) (.q 0 false (.q 1 false (.q 2 false (.q 3 true (.q 4 false (.q 5 false (.q 6 false (.one 7 true (.q 8 false (.one 9 false (.q 10 false (.q 11 false (.q 12 false (.q 13 false (.q 16 false (.one 14 false (.one 15 false (.one 17 false (.one 18 false (.one 19 false (.one 20 false .nil))))))))))))))))))))) (by kernel_rfl) (by kernel_rfl) (by kernel_rfl) ?_ ?_
          · simp [go_sem, ↓IntWalk.iteOmega, *]
          repeat (first | (refine wpTr_qf (v := ?_) rfl rfl ?_ ?_; rotate_left; focus (intro w; go_simp; (try (with_reducible rfl)); done); try simp only [List.getElem_toArray, List.getElem_cons_zero, List.getElem_cons_succ, Act.put, List.setIfInBounds_toArray, List.set_cons_zero, List.set_cons_succ]) | (refine wpTr_qt (v := ?_) rfl rfl ?_ ?_; rotate_left; focus (intro w hSw; (try dsimp only at hSw); go_simp; (try (with_reducible rfl)); done); try simp only [List.getElem_toArray, List.getElem_cons_zero, List.getElem_cons_succ, Act.put, List.setIfInBounds_toArray, List.set_cons_zero, List.set_cons_succ]))
          refine wpTr_one rfl rfl (fun K hK => ?_)
          go_simp
          refine hK.out _ _ (fun _ => by simp [go_sem, ↓IntWalk.iteOmega, *]) ?_
          clear hK K
          repeat (first | (refine wpTr_qf (v := ?_) rfl rfl ?_ ?_; rotate_left; focus (intro w; go_simp; (try (with_reducible rfl)); done); try simp only [List.getElem_toArray, List.getElem_cons_zero, List.getElem_cons_succ, Act.put, List.setIfInBounds_toArray, List.set_cons_zero, List.set_cons_succ]) | (refine wpTr_qt (v := ?_) rfl rfl ?_ ?_; rotate_left; focus (intro w hSw; (try dsimp only at hSw); go_simp; (try (with_reducible rfl)); done); try simp only [List.getElem_toArray, List.getElem_cons_zero, List.getElem_cons_succ, Act.put, List.setIfInBounds_toArray, List.set_cons_zero, List.set_cons_succ]))
          refine wpTr_one rfl rfl (fun K hK => ?_)
          go_simp
          refine hK.out _ _ (fun h => by cases h) ?_
          clear hK K
          repeat (first | (refine wpTr_qf (v := ?_) rfl rfl ?_ ?_; rotate_left; focus (intro w; go_simp; (try (with_reducible rfl)); done); try simp only [List.getElem_toArray, List.getElem_cons_zero, List.getElem_cons_succ, Act.put, List.setIfInBounds_toArray, List.set_cons_zero, List.set_cons_succ]) | (refine wpTr_qt (v := ?_) rfl rfl ?_ ?_; rotate_left; focus (intro w hSw; (try dsimp only at hSw); go_simp; (try (with_reducible rfl)); done); try simp only [List.getElem_toArray, List.getElem_cons_zero, List.getElem_cons_succ, Act.put, List.setIfInBounds_toArray, List.set_cons_zero, List.set_cons_succ]))
          repeat (refine wpTr_qg (v := ?_) rfl (by first | rfl | simp [Region.wanted, yielded, go_sem]) ?_ ?_; rotate_left; focus (intro w; go_simp; (try (with_reducible rfl)); done); try simp only [List.getElem_toArray, List.getElem_cons_zero, List.getElem_cons_succ, Act.put, List.setIfInBounds_toArray, List.set_cons_zero, List.set_cons_succ])
          refine wpTr_oneg rfl (by first | rfl | simp [Region.wanted, yielded, go_sem]) (fun K hK => ?_)
          go_simp
          refine hK.out _ _ (fun h => by cases h) ?_
          clear hK K
          refine wpTr_oneg rfl (by first | rfl | simp [Region.wanted, yielded, go_sem]) (fun K hK => ?_)
          go_simp
          refine (lookO_any lab7 _ Q'.O w8.drew (HT8.out.of (w' := w8.drew) (Nat.le_refl _) (fun _ _ => rfl) (fun _ _ _ => rfl))).mono ?_
          rintro e w9 ⟨ao1, ao2, cap1, cap2, tl, sl, ⟨rfl, ⟨ht, htm⟩, ⟨hs, hsm⟩, hl1, hl2, hb9⟩⟩
          have HB9 := hid (show Below w8.heap.size w8 w9 from ((Below.rf w8).drew).trans hb9)
          have HL1 := hid hl1
          have HL2 := hid hl2
          refine hK.out _ _ (fun h => by cases h) ?_
          clear hK K hl1 hl2 hb9
          refine wpTr_oneg rfl (by first | rfl | simp [Region.wanted, yielded, go_sem]) (fun K hK => ?_)
          go_simp
          refine (modelState_any w2.heap.size M'.S _ w9 (HMX.out w9 HB9.out)).mono ?_
          rintro e w10 ⟨p1, p2, c1, c2, d1, d2, hP⟩
          obtain ⟨e1, e2, e3, e4, e5, e6⟩ := ms_same HB8.out.rl HE7.out HB8.out.fit hP.t1 hP.t2 hP.s1 hP.s2
          have he := hP.e
          have l3 := hP.l1
          have l4 := hP.l2
          rw [e1, e2, e5, e6, ht, hs] at he
          rw [e3, e5, ht] at l3
          rw [e4, e6, hs] at l4
          subst he
          have SY := hid (same_yes (hO Q'.O) (bO Q'.O) (tO Q'.O) (sO Q'.O) tl sl ao1 ao2 p1 p2 cap1 cap2 c1 c2 _ _ _ _ w10 ht hs htm hsm (HL1.out.below hP.b) (HL2.out.below hP.b) l3 l4)
          have HB10 := hid (HB9.out.trans (hP.b.mono HB9.out.size))
          refine hK.out _ _ (fun h => by cases h) ?_
          clear hK K hP e1 e2 e3 e4 e5 e6 l3 l4
          refine wpTr_oneg rfl (by first | rfl | simp [Region.wanted, yielded, go_sem]) (fun K hK => ?_)
          go_simp
          refine SY.out.mono ?_
          rintro e w11 ⟨rfl, hb11⟩
          have HB11 := hid (HB10.out.trans (hb11.mono HB10.out.size))
          refine hK.out _ _ (fun h => by cases h) ?_
          clear hK K hb11 SY
          refine wpTr_oneg rfl (by first | rfl | simp [Region.wanted, yielded, go_sem]) (fun K hK => ?_)
          go_simp
          refine hK.out _ _ (fun h => by cases h) ?_
          clear hK K
          refine wpTr_one rfl rfl (fun K hK => ?_)
          go_simp
          refine hK.out _ _ (fun h => by cases h) ?_
          clear hK K
          refine wpTr_nil ?_
          refine NoPanic.normal ?_
          go_wp2
          go_roundw
          case rel => exact ⟨i + 1, k + 1, Q', M', lab7, by go_num, by omega, by omega, (HB8.out.below HB11.out).below (by (repeat (first | with_reducible exact Below.rf _ | with_reducible exact World.below_ext _ _ | with_reducible refine Below.ex ?_ _ | with_reducible refine Below.al ?_ _ | with_reducible refine Below.setCell ?_ (by simp) _ | with_reducible refine Below.drew ?_))), HE7.out⟩
          case measure => simp [intOf]; omega
    · clear hp
      go_wp2
      go_ret
      exact ⟨rfl, HP.out.bl⟩
end Go.Proofs.Qxb6500717aGreat
