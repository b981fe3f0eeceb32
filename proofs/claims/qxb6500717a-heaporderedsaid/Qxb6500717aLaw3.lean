/-
  Refines: the law.
-/
import Derived.Test.Qxb6500717aLaw3a
import Derived.Test.Qxb6500717aLaw7
namespace Go.Proofs.Qxb6500717a
open Go.RowKit
set_option linter.unusedSimpArgs false
set_option linter.unusedVariables false
set_option maxRecDepth 20000
set_option maxHeartbeats 4000000

theorem stepA_len (T : TabS) (o : Opr) : (T.stepA o).1.2.length ≤ 3 := by
  have hc : ∀ x : Int × Nat × TabS, (cutV x).length ≤ 3 := fun x => by unfold cutV remV; split <;> simp
  have hi : ∀ (c : Prop) [Decidable c] (x y : (Int × List Int) × TabS), x.1.2.length ≤ 3 → y.1.2.length ≤ 3 → (if c then x else y).1.2.length ≤ 3 := fun c _ x y h1 h2 => by split <;> assumption
  unfold TabS.stepA
  repeat' apply hi
  all_goals first | exact hc _ | simp
theorem dk_len {Q : DkS} {o : Opr} {X : (Int × List Int) × DkS} (h : dkRel Q o X) : X.1.2.length ≤ 3 := by
  have hh : ∀ L, (headA L).2.length ≤ 3 := fun L => by unfold headA; split <;> simp
  unfold dkRel at h
  split at h
  · rw [h.1]; simp
  · split at h
    · rw [h.1]; exact hh _
    · subst h
      have hi : ∀ (c : Prop) [Decidable c] (x y : (Int × List Int) × DkS), x.1.2.length ≤ 3 → y.1.2.length ≤ 3 → (if c then x else y).1.2.length ≤ 3 := fun c _ x y h1 h2 => by split <;> assumption
      unfold dkFun
      repeat' apply hi
      all_goals first | exact hh _ | (unfold lookA; split <;> simp; done) | (simp; done) | (split <;> first | exact stepA_len _ _ | simp)
/-- The two side by side while a script is played. -/
structure Both (w0 wr : World) (lab : Nat → Nat) (d m i : Nat) (Q : DkS) (M : ModS) : Prop where
  dk : DeskX wr lab d i Q
  md : ModX wr lab m i M
  bl : Below w0.heap.size w0 wr
  l0 : ∀ j, j < w0.heap.size → lab j = 0
  hm : w0.heap.size ≤ m
  rl : Rel Q M
  od : OrdO Q.O
  nc : NocO Q.O
theorem DeskX.bd {w : World} {lab : Nat → Nat} {d k : Nat} {Q : DkS} (h : DeskX w lab d k Q) : ∀ T, Q.O = some T → TBd T ∧ Con T := by
  intro T e
  obtain ⟨tv, N, -, -, h3⟩ := h.ex
  rw [e] at h3
  obtain ⟨M, -, h2, h3⟩ := h3
  exact ⟨h2.bd, h3⟩
section
variable {w0 wr w' : World} {lab : Nat → Nat} {d m i : Nat} {Q : DkS} {M : ModS}
theorem Both.below (h : Both w0 wr lab d m i Q M) (hb : Below wr.heap.size wr w') : Both w0 w' lab d m i Q M :=
  ⟨h.dk.below hb, h.md.below hb, h.bl.trans (hb.mono h.bl.size), h.l0, h.hm, h.rl, h.od, h.nc⟩
theorem Both.fit (h : Both w0 wr lab d m i Q M) : ∀ T, Q.O = some T → Fit T := fun T e => ⟨(h.dk.bd T e).1, (h.dk.bd T e).2, h.od T e, h.nc T e⟩
theorem Both.opr (h : Both w0 wr lab d m i Q M) {sb so n k : Nat} {o : Nat → Opr} {lao : Nat → Option Addr} {llen lcap : Nat → Nat} (hS : Scr w0 sb so n o lao llen lcap) (hi : k < n) (hl : llen k ≤ 65536) : OprAt wr lab (o k) (lao k) (llen k) := by
  refine ⟨hS.hC k hi, hS.hn k hi, by omega, fun j c hj => ?_⟩
  obtain ⟨b, a, h1, h2, h3⟩ := hS.hrow k hi j c hj
  exact ⟨b, a, h1, by have := h.bl.size; omega, h.l0 b h2, by rw [World.cell?_of_block (h.bl.block b h2)]; exact h3⟩
theorem oprM {w5 : World} (hb : Below w0.heap.size w0 w5) (hm : w0.heap.size ≤ m) {sb so n k : Nat} {o : Nat → Opr} {lao : Nat → Option Addr} {llen lcap : Nat → Nat} (hS : Scr w0 sb so n o lao llen lcap) (hi : k < n) (hl : llen k ≤ 65536) : OprM w5 m (o k) (lao k) (llen k) := by
  refine ⟨hS.hA k hi, hS.hB k hi, hS.hC k hi, hS.hn k hi, by omega, fun j c hj => ?_⟩
  obtain ⟨b, a, h1, h2, h3⟩ := hS.hrow k hi j c hj
  exact ⟨b, a, h1, by omega, by rw [World.cell?_of_block (hb.block b h2)]; exact h3⟩
end
theorem lawR3 (sb so n cap : Nat) (o : Nat → Opr) (lao : Nat → Option Addr) (llen lcap : Nat → Nat) (w : World) (hS : Scr w sb so n o lao llen lcap) (hn : n ≤ 9223372036854775807) :
    Calls Try.prog 3 #[.slice (some ⟨sb, so, none⟩) n cap] w fun e w' => e = .returned (.bool true) ∧ Below w.heap.size w w' := by
  have HS := hid hS
  have SM := hid (small_any sb so n cap o lao llen lcap w hS hn)
  clear hS
  go_enter Try.func3, Try.ntmps3
  go_wp2_with (go_at_call 9; refine hold ?_)
  unfold Hid
  refine SM.out.mono ?_
  rintro e w1 ⟨⟨b, rfl, hsm⟩, hw1⟩
  obtain rfl : w = w1 := hw1.symm
  clear hw1 SM
  cases b with
  | false =>
    go_wp2
    go_ret
    exact ⟨rfl, Below.rf _⟩
  | true =>
  obtain ⟨hn1, hn2⟩ := hsm rfl
  have HN2 := hid hn2
  clear hsm hn2
  go_wp2_with (go_at_call 10; refine hold ?_)
  unfold Hid
  refine (newDeskX (fun _ => 0) w).mono ?_
  rintro e w2 ⟨d, lab2, rfl, hd2, hl2, hb2⟩
  have s2 := hb2.size
  have P0 := hid (show Both w (w2.alloc (.cells #[.bool false, .int .i64 (0), .int .i64 (0), .int .i64 (0), .int .i64 (0), .slice none 0 0, .slice none 0 0, .slice none 0 0, .int .i64 (0), .int .i64 (0), .map none] 32)) (upd lab2 w2.heap.size 30) d w2.heap.size 0 dk0 md0 from
    ⟨hd2.of (by simp) (fun j hj => upd_ne _ _ (by omega)) (fun j hj _ => (Below.al (Below.rf w2) _).block j hj) (fun j hj => by simp at hj; rw [upd_ne _ _ (by omega)]; exact hd2.hl j (by omega)), ModX.made hd2.hl, hb2.trans (Below.mono (B := w2.heap.size) (by (repeat (first | with_reducible exact Below.rf _ | with_reducible exact World.below_ext _ _ | with_reducible refine Below.ex ?_ _ | with_reducible refine Below.al ?_ _ | with_reducible refine Below.setCell ?_ (by simp) _ | with_reducible refine Below.drew ?_))) s2), fun j hj => by rw [upd_ne _ _ (by omega)]; exact hl2 j hj, s2, rel0, fun T h => (by cases h), fun T h => (by cases h)⟩)
  clear hd2 hl2 hb2
  go_wp2
  go_loopw [15] (fun x wr => ∃ (i : Nat) (Q : DkS) (M : ModS) (lab : Nat → Nat), x = .int .i64 (i) ∧ i ≤ n ∧ Both w wr lab d w2.heap.size i Q M) (fun x _ => n - (intOf x).toNat)
  case atStart => exact ⟨0, dk0, md0, _, rfl, by omega, P0.out⟩
  case round =>
    clear P0
    obtain ⟨i, Q, M, lab, rfl, hi, hp⟩ := hrel
    have HP := hid hp
    by_cases hlt : i < n
    · obtain ⟨q0, q1, q2, q3, q4, q5⟩ := (HS.out.below (Nat.le_refl _) hp.bl).cells i hlt
      have lsb := (HS.out.below (Nat.le_refl _) hp.bl).hsb
      clear hp
      go_wp2
      refine wp_region_tree 5 (fun w' => w'.cell? ⟨wr.heap.size, 0, none⟩ = some (.int .i64 ((o i).K)) ∧ w'.cell? ⟨wr.heap.size, 1, none⟩ = some (.int .i64 ((o i).A)) ∧ w'.cell? ⟨wr.heap.size, 2, none⟩ = some (.int .i64 ((o i).B)) ∧ w'.cell? ⟨wr.heap.size, 3, none⟩ = some (.int .i64 ((o i).C)) ∧ w'.cell? ⟨wr.heap.size, 4, none⟩ = some (.int .i64 ((o i).D)) ∧ w'.cell? ⟨wr.heap.size, 5, none⟩ = some (.slice (lao i) (llen i) (lcap i))) (.q 0 false (.q 3 false (.q 4 true (.one 1 true (.one 2 true (.one 5 false (.one 6 false (.one 7 false .nil)))))))) (by kernel_rfl) (by kernel_rfl) (by kernel_rfl) ?_ ?_
      · simp [go_sem, ↓IntWalk.iteOmega, *]
      repeat (first | (refine wpTr_qf (v := ?_) rfl rfl ?_ ?_; rotate_left; focus (intro w; go_simp; (try (with_reducible rfl)); done); try simp only [List.getElem_toArray, List.getElem_cons_zero, List.getElem_cons_succ, Act.put, List.setIfInBounds_toArray, List.set_cons_zero, List.set_cons_succ]) | (refine wpTr_qt (v := ?_) rfl rfl ?_ ?_; rotate_left; focus (intro w hSw; (try dsimp only at hSw); go_simp; (try (with_reducible rfl)); done); try simp only [List.getElem_toArray, List.getElem_cons_zero, List.getElem_cons_succ, Act.put, List.setIfInBounds_toArray, List.set_cons_zero, List.set_cons_succ]))
      refine wpTr_one rfl rfl (fun K hK => ?_)
      go_simp
      refine hK.out _ _ (fun _ => by simp [go_sem, ↓IntWalk.iteOmega, *]) ?_
      clear hK K
      refine wpTr_one rfl rfl (fun K hK => ?_)
      go_simp
      have hz : lab wr.heap.size = 0 := HP.out.dk.hl _ (Nat.le_refl _)
      refine (do_allX (o i) (lao i) (llen i) (lcap i) lab d i Q _ (HP.out.below (by (repeat (first | with_reducible exact Below.rf _ | with_reducible exact World.below_ext _ _ | with_reducible refine Below.ex ?_ _ | with_reducible refine Below.al ?_ _ | with_reducible refine Below.setCell ?_ (by simp) _ | with_reducible refine Below.drew ?_)))).dk (by omega) ((HP.out.below (by (repeat (first | with_reducible exact Below.rf _ | with_reducible exact World.below_ext _ _ | with_reducible refine Below.ex ?_ _ | with_reducible refine Below.al ?_ _ | with_reducible refine Below.setCell ?_ (by simp) _ | with_reducible refine Below.drew ?_)))).opr HS.out hlt (HN2.out i hlt))).mono ?_
      rintro e w5 ⟨⟨⟨xc, xv⟩, Q'⟩, hX, v, lab5, rfl, hI5, hd5, hl5, hf5, hk5⟩
      simp only at hI5 hd5
      have nt : ¬ tagL (lab wr.heap.size) := by rw [hz]; unfold tagL; omega
      have t0 := hk5.cell (b := wr.heap.size) 0 (by simp) nt
      have t1 := hk5.cell (b := wr.heap.size) 1 (by simp) nt
      have t2 := hk5.cell (b := wr.heap.size) 2 (by simp) nt
      have t3 := hk5.cell (b := wr.heap.size) 3 (by simp) nt
      have t4 := hk5.cell (b := wr.heap.size) 4 (by simp) nt
      have t5 := hk5.cell (b := wr.heap.size) 5 (by simp) nt
      simp [go_sem, ↓IntWalk.iteOmega] at t0 t1 t2 t3 t4 t5
      have s5 := hk5.size
      simp at s5
      have hbl5 : Below w.heap.size w w5 := by
        refine ⟨hk5.os.trans (HP.out.below (by (repeat (first | with_reducible exact Below.rf _ | with_reducible exact World.below_ext _ _ | with_reducible refine Below.ex ?_ _ | with_reducible refine Below.al ?_ _ | with_reducible refine Below.setCell ?_ (by simp) _ | with_reducible refine Below.drew ?_)))).bl.os, hk5.tape.trans (HP.out.below (by (repeat (first | with_reducible exact Below.rf _ | with_reducible exact World.below_ext _ _ | with_reducible refine Below.ex ?_ _ | with_reducible refine Below.al ?_ _ | with_reducible refine Below.setCell ?_ (by simp) _ | with_reducible refine Below.drew ?_)))).bl.tape, hk5.output.trans (HP.out.below (by (repeat (first | with_reducible exact Below.rf _ | with_reducible exact World.below_ext _ _ | with_reducible refine Below.ex ?_ _ | with_reducible refine Below.al ?_ _ | with_reducible refine Below.setCell ?_ (by simp) _ | with_reducible refine Below.drew ?_)))).bl.output, ?_, fun j hj => ?_⟩
        · have := HP.out.bl.size; omega
        · rw [hk5.block j (by have := HP.out.bl.size; simp; omega) (by rw [HP.out.l0 j hj]; unfold tagL; omega)]
          exact (HP.out.below (by (repeat (first | with_reducible exact Below.rf _ | with_reducible exact World.below_ext _ _ | with_reducible refine Below.ex ?_ _ | with_reducible refine Below.al ?_ _ | with_reducible refine Below.setCell ?_ (by simp) _ | with_reducible refine Below.drew ?_)))).bl.block j hj
      have md5 : ModX w5 lab5 w2.heap.size i M := (HP.out.below (by (repeat (first | with_reducible exact Below.rf _ | with_reducible exact World.below_ext _ _ | with_reducible refine Below.ex ?_ _ | with_reducible refine Below.al ?_ _ | with_reducible refine Below.setCell ?_ (by simp) _ | with_reducible refine Below.drew ?_)))).md.of hk5.size hl5 (fun j hj h => hk5.block j hj (by unfold tagL; omega)) hd5.hl
      have L5 := hid hl5
      have HX5 := hid hX
      have HI5 := hid hI5
      have HD5 := hid hd5
      have HF5 := hid hf5
      have HM5 := hid md5
      have HB5 := hid hbl5
      refine hK.out _ _ (fun _ => ⟨t0, t1, t2, t3, t4, t5⟩) ?_
      clear hK K hl5 hX hI5 hd5 hf5 md5 hbl5 hk5 q0 q1 q2 q3 q4 q5 lsb
      refine wpTr_one rfl rfl (fun K hK => ?_)
      go_simp
      refine (st_all (o i) (lao i) (llen i) (lcap i) lab5 w2.heap.size i M _ HM5.out (by omega) (oprM HB5.out HP.out.hm HS.out hlt (HN2.out i hlt))).mono ?_
      rintro e w7 ⟨⟨⟨yc, yv⟩, M'⟩, hY, v2, lab7, rfl, hI7, hm7, hl7, hf7, hk7⟩
      simp only at hI7 hm7
      obtain ⟨b1, b2, b3⟩ := bisim HP.out.rl HP.out.fit HP.out.dk.hp (o i) HX5.out hY
      simp only [Prod.mk.injEq] at b1
      obtain ⟨rfl, rfl⟩ := b1
      simp only at b2 b3
      have hlen := dk_len HX5.out
      simp only at hlen
      have dk7 : DeskX w7 lab7 d (i + 1) Q' := HD5.out.of hk7.size hl7 (fun j hj ht => hk7.block j hj (by unfold tagL at ht; unfold modL; omega)) hm7.hl
      have hI5' := HI5.out.of (base' := 0) hk7.size (fun j hj hl => hk7.block j hl (by have := HF5.out j hj; unfold modL; omega)) (Nat.zero_le _)
      have BT : Both w w7 lab7 d w2.heap.size (i + 1) Q' M' := by
        refine ⟨dk7, hm7, ⟨hk7.os.trans HB5.out.os, hk7.tape.trans HB5.out.tape, hk7.output.trans HB5.out.output, Nat.le_trans HB5.out.size hk7.size, fun j hj => ?_⟩, fun j hj => ?_, HP.out.hm, b2, ?_, ?_⟩
        · have sB := HB5.out.size
          rw [hk7.block j (by omega) (by rw [L5.out j (by simp; have := HP.out.bl.size; omega), HP.out.l0 j hj]; unfold modL; omega)]
          exact HB5.out.block j hj
        · have sB := HB5.out.size
          rw [hl7 j (by omega), L5.out j (by simp; have := HP.out.bl.size; omega)]
          exact HP.out.l0 j hj
        · rw [b3]; exact HP.out.od.step (fun T e => (HP.out.dk.bd T e).1) (o i)
        · rw [b3]; exact HP.out.nc.step HP.out.od HP.out.dk.bd (o i)
      have HBT := hid BT
      have EQ := hid (equal_yes xc xv v v2 _ _ w7 hI5' hI7 (by omega))
      refine hK.out _ _ (fun h => by cases h) ?_
      clear hK K hY hI7 hm7 hl7 hf7 hk7 b2 b3 dk7 hI5' BT t0 t1 t2 t3 t4 t5
      refine wpTr_one rfl rfl (fun K hK => ?_)
      go_simp
      refine EQ.out.mono ?_
      rintro e w8 ⟨rfl, z8, rfl⟩
      refine hK.out _ _ (fun h => by cases h) ?_
      clear hK K
      refine wpTr_one rfl rfl (fun K hK => ?_)
      go_simp
      refine hK.out _ _ (fun h => by cases h) ?_
      clear hK K
      refine wpTr_nil ?_
      refine NoPanic.normal ?_
      go_wp2
      go_roundw
      case rel => exact ⟨i + 1, Q', M', lab7, by go_num, by omega, HBT.out.below (by (repeat (first | with_reducible exact Below.rf _ | with_reducible exact World.below_ext _ _ | with_reducible refine Below.ex ?_ _ | with_reducible refine Below.al ?_ _ | with_reducible refine Below.setCell ?_ (by simp) _ | with_reducible refine Below.drew ?_)))⟩
      case measure => simp [intOf]; omega
    · clear hp
      go_wp2
      go_ret
      exact ⟨rfl, HP.out.bl⟩
end Go.Proofs.Qxb6500717a
