/-
  HeapOrdered: the law.
-/
import Derived.Test.Qxb6500717aHo1
import Derived.Test.Qxb6500717aScript
namespace Go.Proofs.Qxb6500717a
open Go.RowKit
set_option linter.unusedSimpArgs false
set_option linter.unusedVariables false
set_option maxRecDepth 20000
set_option maxHeartbeats 4000000
/-- The sort of the copy, whatever its length. -/
theorem sort22 (base Bs cap : Nat) (p : Option Addr) (H : List Ent) (w : World) (h : CpAt w base p cap H) (hl : H.length ≤ 1000000) (hBs : Bs < w.heap.size) (hb0 : base ≤ w.heap.size) (hne : ∀ b, p = some ⟨b, 0, none⟩ → b ≠ Bs) (hs : w.cell? ⟨Bs, 0, none⟩ = some (.slice p H.length cap)) :
    Calls Try.prog 22 #[.iface 29 (.slice p H.length cap), .func (.func 23) #[] #[.pointer (some ⟨Bs, 0, none⟩)]] w fun e w' => e = .returned (.tuple #[]) ∧ ∃ (d' : Array Ent) (blk : Nat), Sort.PermIn 0 H.toArray.size H.toArray d' ∧ Sort.SortedIn ltE 0 H.toArray.size d' ∧ base ≤ blk ∧ blk ≠ Bs ∧ KeptBut blk w w' ∧ (0 < H.length → p = some ⟨blk, 0, none⟩ ∧ blk < w.heap.size ∧ Sort.HoldsK encE 4 w' blk 0 d') := by
  have hz : H.toArray.size = H.length := by simp
  by_cases h2 : H.length ≤ 1
  · refine (slice22_tiny p H.length cap Bs w h2).mono ?_
    rintro e w' ⟨rfl, hb⟩
    have so : Sort.SortedIn ltE 0 H.toArray.size H.toArray := fun i j _ h1 h3 => by omega
    rcases h with ⟨rfl, rfl⟩ | ⟨b, rfl, hb1, hx⟩
    · exact ⟨rfl, #[], w.heap.size, Sort.permIn_refl _ _ _, so, hb0, by omega, KeptBut.of_below hb (Nat.le_refl _), fun h => by simp at h⟩
    · refine ⟨rfl, H.toArray, b, Sort.permIn_refl _ _ _, so, hb1, hne b rfl, KeptBut.of_below hb (Nat.le_refl _), fun _ => ⟨rfl, hx.lt, holds_hx (Pad.below hx hb)⟩⟩
  · rcases h with ⟨rfl, rfl⟩ | ⟨b, rfl, hb1, hx⟩
    · simp at h2
    · have := slice22 b cap Bs H.toArray w (by omega) (by omega) (holds_hx hx) hx.lt hBs (hne b rfl).symm (by rw [hz]; exact hs)
      rw [hz] at this
      refine this.mono ?_
      rintro e w' ⟨rfl, d', h1, h3, h4, h5⟩
      rw [hz] at *
      exact ⟨rfl, d', b, h1, h3, hb1, hne b rfl, h5, fun _ => ⟨rfl, hx.lt, h4⟩⟩
theorem holds_blk {w w' : World} {b : Nat} {d : Array Ent} (h : Sort.HoldsK encE 4 w b 0 d) (hb : w'.heap[b]? = w.heap[b]?) : Sort.HoldsK encE 4 w' b 0 d :=
  fun t ht => ⟨(World.cell?_of_block hb).trans (h t ht).1, (World.frozen?_of_block hb).trans (h t ht).2⟩
theorem CpAt.below {w w' : World} {base cap : Nat} {p : Option Addr} {H : List Ent} (h : CpAt w base p cap H) (hb : Below w.heap.size w w') : CpAt w' base p cap H := by
  rcases h with h | ⟨b, h1, h2, h3⟩
  · exact Or.inl h
  · exact Or.inr ⟨b, h1, h2, Pad.below h3 hb⟩
theorem CpAt.ne {w : World} {base cap : Nat} {p : Option Addr} {H : List Ent} (h : CpAt w base p cap H) : ∀ b, p = some ⟨b, 0, none⟩ → b ≠ w.heap.size := by
  intro b hb e
  rcases h with ⟨h, -⟩ | ⟨c, h1, h2, h3⟩
  · rw [h] at hb; cases hb
  · rw [h1] at hb
    simp at hb
    have := h3.lt
    omega
theorem lawG5 (sp : Option Addr) (n cap : Nat) (o : Nat → Opr) (lao : Nat → Option Addr) (llen lcap : Nat → Nat) (w : World) (hS : ∀ i, i < n → ∃ sb so, sp = some ⟨sb, so, none⟩ ∧ Scr w sb so n o lao llen lcap)
    (hsmall : Calls Try.prog 9 #[.slice sp n cap] w fun e w' => (∃ b, e = .returned (.bool b) ∧ (b = true → n ≤ 65536 ∧ ∀ i, i < n → llen i ≤ 65536)) ∧ w' = w) :
    Calls Try.prog 5 #[.slice sp n cap] w fun e w' => e = .returned (.bool true) ∧ Below w.heap.size w w' := by
  have HS := hid hS
  have SM := hid hsmall
  clear hS hsmall
  go_enter Try.func5, Try.ntmps5
  go_wp2_with (go_at_call 9; refine hold ?_)
  unfold Hid
  refine SM.out.mono ?_
  rintro e w1 ⟨⟨b, rfl, hsm⟩, hw1⟩
  obtain rfl : w = w1 := hw1.symm
  clear hw1 SM
  cases b with
  | false =>
    go_wp2
    go_ret
    exact ⟨rfl, Below.rf _⟩
  | true =>
  obtain ⟨hn1, hn2⟩ := hsm rfl
  have HN2 := hid hn2
  clear hsm hn2
  go_wp2
  go_loopw [21] (fun x wr => ∃ (i k : Nat) (L : List Ent) (nx : Nat) (M : ModS) (lab : Nat → Nat), x = .int .i64 (i) ∧ i ≤ n ∧ k ≤ i ∧ Mid w wr lab w.heap.size (w.heap.size + 1) k L nx M ∧ Rel ⟨none, L, nx, MkS.new 0⟩ M ∧ isHeap L) (fun x _ => n - (intOf x).toNat)
  case atStart =>
    refine ⟨0, 0, [], 0, md0, upd (upd (fun _ => 0) w.heap.size 1) (w.heap.size + 1) 30, rfl, by omega, Nat.le_refl _, ⟨?_, ?_, by (repeat (first | with_reducible exact Below.rf _ | with_reducible exact World.below_ext _ _ | with_reducible refine Below.ex ?_ _ | with_reducible refine Below.al ?_ _ | with_reducible refine Below.setCell ?_ (by simp) _ | with_reducible refine Below.drew ?_)), fun j hj => ?_, by omega⟩, rel0, fun i h1 h2 => by simp at h2⟩
    · refine ⟨by rw [upd_ne _ _ (by omega), upd_at], by simp; omega, by simp [go_sem, ↓IntWalk.iteOmega], by simp [go_sem, ↓IntWalk.iteOmega], by simp [go_sem, ↓IntWalk.iteOmega], fun i hi => by simp [go_sem, ↓IntWalk.iteOmega], none, 0, by simp [go_sem, ↓IntWalk.iteOmega], by simp, Or.inl ⟨rfl, rfl⟩⟩
    · have := ModX.made (w := w.alloc (.cells #[.slice none 0 0, .int .i64 (0)] 45)) (lab := upd (fun _ => 0) w.heap.size 1) (fun j hj => by simp at hj; rw [upd_ne _ _ (by omega)])
      simp only [World.size_alloc] at this
      exact this
    · rw [upd_ne _ _ (by omega), upd_ne _ _ (by omega)]
  case round =>
    obtain ⟨i, k, L, nx, M, lab, rfl, hi, hk, hp, hrl, hh⟩ := hrel
    have HP := hid hp
    have HR := hid hrl
    have HH := hid hh
    have hlL : L.length ≤ k ∧ nx ≤ k := by
      have a1 := hrl.hp.pm.length_eq
      have a2 := hrl.hp.nx
      have a3 := hp.md.bk
      simp only at a1 a2
      omega
    by_cases hlt : i < n
    · obtain ⟨sb, so, rfl, hscr0⟩ := HS.out i hlt
      obtain ⟨q0, q1, q2, q3, q4, q5⟩ := (hscr0.below (Nat.le_refl _) hp.bl).cells i hlt
      have lsb := (hscr0.below (Nat.le_refl _) hp.bl).hsb
      have hscr := hid hscr0
      clear hp hrl hh hscr0
      by_cases h14 : (o i).K = 14
      · have b14 : ((o i).K == 14) = true := by simp [h14]
        have H14 := hid h14
        clear h14
        go_wp2_with (go_at_call 18; refine hold ?_)
        unfold Hid
        refine (hpushY w.heap.size lab _ _ L nx (o i).A (o i).B (o i).C _ (HP.out.below (by (repeat (first | with_reducible exact Below.rf _ | with_reducible exact World.below_ext _ _ | with_reducible refine Below.ex ?_ _ | with_reducible refine Below.al ?_ _ | with_reducible refine Below.setCell ?_ (by simp) _ | with_reducible refine Below.drew ?_)))).dy (by omega) (by omega) HH.out).mono ?_
        rintro e w5 ⟨L', nx', ⟨rfl, rfl, hh5, hpm⟩, lab5', hD5, hl5, hk5⟩
        obtain ⟨lab5, hM5, -⟩ := (HP.out.below (by (repeat (first | with_reducible exact Below.rf _ | with_reducible exact World.below_ext _ _ | with_reducible refine Below.ex ?_ _ | with_reducible refine Below.al ?_ _ | with_reducible refine Below.setCell ?_ (by simp) _ | with_reducible refine Below.drew ?_)))).hp hD5 hl5 hk5
        have nt : ¬ (fun x => x = 1 ∨ x = 2) (lab wr.heap.size) := by rw [HP.out.md.hl _ (Nat.le_refl _)]; omega
        have t0 := hk5.cell (b := wr.heap.size) 0 (by simp) nt
        have t1 := hk5.cell (b := wr.heap.size) 1 (by simp) nt
        have t2 := hk5.cell (b := wr.heap.size) 2 (by simp) nt
        have t3 := hk5.cell (b := wr.heap.size) 3 (by simp) nt
        have t4 := hk5.cell (b := wr.heap.size) 4 (by simp) nt
        have t5 := hk5.cell (b := wr.heap.size) 5 (by simp) nt
        simp [go_sem, ↓IntWalk.iteOmega] at t0 t1 t2 t3 t4 t5
        have s5 := hk5.size
        simp at s5
        have HM5 := hid hM5
        clear hD5 hl5 hk5 hM5 q0 q1 q2 q3 q4 q5 lsb
        go_wp2_with (go_at_call 13; refine hold ?_)
        unfold Hid
        refine (st_all (o i) (lao i) (llen i) (lcap i) lab5 (w.heap.size + 1) k M _ HM5.out.md (by omega) (oprM HM5.out.bl HM5.out.hm hscr.out hlt (HN2.out i hlt))).mono ?_
        rintro e w7 ⟨⟨⟨yc, yv⟩, M'⟩, hY, v2, lab7, rfl, hI7, hm7, hl7, hf7, hk7⟩
        simp only at hI7 hm7
        have HM7 := hid (HM5.out.st hm7 hl7 hk7)
        obtain ⟨-, b2, -⟩ := bisim HR.out (fun T h => by cases h) HH.out (o i) (X := ((0, []), ⟨none, L', nx + 1, MkS.new 0⟩)) (by unfold dkRel; rw [if_pos H14.out]; exact ⟨rfl, rfl, rfl, rfl, hpm⟩) hY
        have HR7 := hid b2
        have HH5 := hid hh5
        clear hY hI7 hm7 hl7 hf7 hk7 b2 hpm hh5
        go_wp2
        go_roundw
        case rel => exact ⟨i + 1, k + 1, L', nx + 1, M', lab7, by go_num, by omega, by omega, HM7.out.below (by (repeat (first | with_reducible exact Below.rf _ | with_reducible exact World.below_ext _ _ | with_reducible refine Below.ex ?_ _ | with_reducible refine Below.al ?_ _ | with_reducible refine Below.setCell ?_ (by simp) _ | with_reducible refine Below.drew ?_))), HR7.out, HH5.out⟩
        case measure => simp [intOf]; omega
      · have b14 : ((o i).K == 14) = false := by simp [h14]
        have H14 := hid h14
        clear h14
        by_cases h15 : (o i).K = 15
        · have b15 : ((o i).K == 15) = true := by simp [h15]
          have H15 := hid h15
          clear h15
          go_wp2
          refine wp_region_tree 6 (fun w' => w'.cell? ⟨wr.heap.size, 0, none⟩ = some (.int .i64 ((o i).K)) ∧ w'.cell? ⟨wr.heap.size, 1, none⟩ = some (.int .i64 ((o i).A)) ∧ w'.cell? ⟨wr.heap.size, 2, none⟩ = some (.int .i64 ((o i).B)) ∧ w'.cell? ⟨wr.heap.size, 3, none⟩ = some (.int .i64 ((o i).C)) ∧ w'.cell? ⟨wr.heap.size, 4, none⟩ = some (.int .i64 ((o i).D)) ∧ w'.cell? ⟨wr.heap.size, 5, none⟩ = some (.slice (lao i) (llen i) (lcap i))) (.q 4 false (.q 5 true (.one 0 true (.q 1 false (.q 2 false (.one 3 true (.one 6 false (.one 7 false (.one 8 false .nil))))))))) (by kernel_rfl) (by kernel_rfl) (by kernel_rfl) ?_ ?_
          · simp [go_sem, ↓IntWalk.iteOmega, *]
          repeat (first | (refine wpTr_qf (v := ?_) rfl rfl ?_ ?_; rotate_left; focus (intro w; go_simp; (try (with_reducible rfl)); done); try simp only [List.getElem_toArray, List.getElem_cons_zero, List.getElem_cons_succ, Act.put, List.setIfInBounds_toArray, List.set_cons_zero, List.set_cons_succ]) | (refine wpTr_qt (v := ?_) rfl rfl ?_ ?_; rotate_left; focus (intro w hSw; (try dsimp only at hSw); go_simp; (try (with_reducible rfl)); done); try simp only [List.getElem_toArray, List.getElem_cons_zero, List.getElem_cons_succ, Act.put, List.setIfInBounds_toArray, List.set_cons_zero, List.set_cons_succ]))
          refine wpTr_one rfl rfl (fun K hK => ?_)
          go_simp
          refine (hpopY w.heap.size lab _ _ L nx _ (HP.out.below (by (repeat (first | with_reducible exact Below.rf _ | with_reducible exact World.below_ext _ _ | with_reducible refine Below.ex ?_ _ | with_reducible refine Below.al ?_ _ | with_reducible refine Below.setCell ?_ (by simp) _ | with_reducible refine Below.drew ?_)))).dy (by omega) HH.out).mono ?_
          rintro e w5 ⟨L', nx', ⟨hE, rfl, hh5, hpm⟩, lab5', hD5, hl5, hk5⟩
          obtain ⟨lab5, hM5, -⟩ := (HP.out.below (by (repeat (first | with_reducible exact Below.rf _ | with_reducible exact World.below_ext _ _ | with_reducible refine Below.ex ?_ _ | with_reducible refine Below.al ?_ _ | with_reducible refine Below.setCell ?_ (by simp) _ | with_reducible refine Below.drew ?_)))).hp hD5 hl5 hk5
          obtain ⟨x0, x1, x2, xf, rfl, g1, g2⟩ := headE_ex hE
          have IT := itemX x0 x1 x2 xf w5
          simp only [g1, g2] at IT
          have HIT := hid IT
          have nt : ¬ (fun x => x = 1 ∨ x = 2) (lab wr.heap.size) := by rw [HP.out.md.hl _ (Nat.le_refl _)]; omega
          have t0 := hk5.cell (b := wr.heap.size) 0 (by simp) nt
          have t1 := hk5.cell (b := wr.heap.size) 1 (by simp) nt
          have t2 := hk5.cell (b := wr.heap.size) 2 (by simp) nt
          have t3 := hk5.cell (b := wr.heap.size) 3 (by simp) nt
          have t4 := hk5.cell (b := wr.heap.size) 4 (by simp) nt
          have t5 := hk5.cell (b := wr.heap.size) 5 (by simp) nt
          simp [go_sem, ↓IntWalk.iteOmega] at t0 t1 t2 t3 t4 t5
          have s5 := hk5.size
          simp at s5
          have HM5 := hid hM5
          have HH5 := hid hh5
          have HPM := hid hpm
          refine hK.out _ _ (fun _ => ⟨t0, t1, t2, t3, t4, t5⟩) ?_
          clear hK K hD5 hl5 hk5 hM5 q0 q1 q2 q3 q4 q5 lsb hE g1 g2 IT hh5 hpm
          repeat (first | (refine wpTr_qf (v := ?_) rfl rfl ?_ ?_; rotate_left; focus (intro w; go_simp; (try (with_reducible rfl)); done); try simp only [List.getElem_toArray, List.getElem_cons_zero, List.getElem_cons_succ, Act.put, List.setIfInBounds_toArray, List.set_cons_zero, List.set_cons_succ]) | (refine wpTr_qt (v := ?_) rfl rfl ?_ ?_; rotate_left; focus (intro w hSw; (try dsimp only at hSw); go_simp; (try (with_reducible rfl)); done); try simp only [List.getElem_toArray, List.getElem_cons_zero, List.getElem_cons_succ, Act.put, List.setIfInBounds_toArray, List.set_cons_zero, List.set_cons_succ]))
          refine wpTr_one rfl rfl (fun K hK => ?_)
          go_simp
          refine HIT.out.mono ?_
          rintro e w6 ⟨⟨v, rfl, hI⟩, hB6⟩
          have s6 := hB6.size
          have u0 := (hB6.cell (p := ⟨wr.heap.size, 0, none⟩) (by simp; omega)).trans t0
          have u1 := (hB6.cell (p := ⟨wr.heap.size, 1, none⟩) (by simp; omega)).trans t1
          have u2 := (hB6.cell (p := ⟨wr.heap.size, 2, none⟩) (by simp; omega)).trans t2
          have u3 := (hB6.cell (p := ⟨wr.heap.size, 3, none⟩) (by simp; omega)).trans t3
          have u4 := (hB6.cell (p := ⟨wr.heap.size, 4, none⟩) (by simp; omega)).trans t4
          have u5 := (hB6.cell (p := ⟨wr.heap.size, 5, none⟩) (by simp; omega)).trans t5
          have HM6 := hid (HM5.out.below hB6)
          have HI := hid hI
          refine hK.out _ _ (fun _ => ⟨u0, u1, u2, u3, u4, u5⟩) ?_
          clear hK K t0 t1 t2 t3 t4 t5 hI hB6 HIT
          refine wpTr_one rfl rfl (fun K hK => ?_)
          go_simp
          refine (st_all (o i) (lao i) (llen i) (lcap i) lab5 (w.heap.size + 1) k M _ HM6.out.md (by omega) (oprM HM6.out.bl HM6.out.hm hscr.out hlt (HN2.out i hlt))).mono ?_
          rintro e w7 ⟨⟨⟨yc, yv⟩, M'⟩, hY, v2, lab7, rfl, hI7, hm7, hl7, hf7, hk7⟩
          simp only at hI7 hm7
          have HM7 := hid (HM6.out.st hm7 hl7 hk7)
          obtain ⟨b1, b2, -⟩ := bisim HR.out (fun T h => by cases h) HH.out (o i) (X := (headA L, ⟨none, L', nx', MkS.new 0⟩)) (by unfold dkRel; rw [if_neg H14.out, if_pos H15.out]; exact ⟨rfl, rfl, rfl, rfl, HPM.out⟩) hY
          simp only at b1 b2
          have HR7 := hid b2
          have hI5' := HI.out.of (base' := 0) hk7.size (fun j hj hl => hk7.block j hl (by rw [HM5.out.md.hl j hj]; unfold modL; omega)) (Nat.zero_le _)
          have hlen : yv.length ≤ 1000 := by
            have : (headA L).2.length ≤ 3 := by unfold headA; split <;> simp
            rw [b1] at this
            simp only at this
            omega
          rw [b1] at hI5' ⊢
          simp only at hI5' ⊢
          have EQ := hid (equal_yes yc yv v v2 _ _ w7 hI5' hI7 hlen)
          refine hK.out _ _ (fun h => by cases h) ?_
          clear hK K hY hI7 hm7 hl7 hf7 hk7 b1 b2 hI5' hlen u0 u1 u2 u3 u4 u5
          refine wpTr_one rfl rfl (fun K hK => ?_)
          go_simp
          refine EQ.out.mono ?_
          rintro e w8 ⟨rfl, z8, rfl⟩
          refine hK.out _ _ (fun h => by cases h) ?_
          clear hK K
          refine wpTr_one rfl rfl (fun K hK => ?_)
          go_simp
          refine hK.out _ _ (fun h => by cases h) ?_
          clear hK K
          refine wpTr_nil ?_
          refine NoPanic.normal ?_
          go_wp2
          go_roundw
          case rel => exact ⟨i + 1, k + 1, L', nx', M', lab7, by go_num, by omega, by omega, HM7.out.below (by (repeat (first | with_reducible exact Below.rf _ | with_reducible exact World.below_ext _ _ | with_reducible refine Below.ex ?_ _ | with_reducible refine Below.al ?_ _ | with_reducible refine Below.setCell ?_ (by simp) _ | with_reducible refine Below.drew ?_))), HR7.out, HH5.out⟩
          case measure => simp [intOf]; omega
        · have b15 : ((o i).K == 15) = false := by simp [h15]
          have H15 := hid h15
          clear h15
          by_cases h18 : (o i).K = 18
          · have b18 : ((o i).K == 18) = true := by simp [h18]
            have H18 := hid h18
            clear h18
            go_wp2_with (go_at_call 21; refine hold ?_)
            unfold Hid
            refine (hresetY w.heap.size lab _ _ L nx _ (HP.out.below (by (repeat (first | with_reducible exact Below.rf _ | with_reducible exact World.below_ext _ _ | with_reducible refine Below.ex ?_ _ | with_reducible refine Below.al ?_ _ | with_reducible refine Below.setCell ?_ (by simp) _ | with_reducible refine Below.drew ?_)))).dy).mono ?_
            rintro e w5 ⟨L', nx', ⟨rfl, rfl, rfl⟩, lab5', hD5, hl5, hk5⟩
            obtain ⟨lab5, hM5, -⟩ := (HP.out.below (by (repeat (first | with_reducible exact Below.rf _ | with_reducible exact World.below_ext _ _ | with_reducible refine Below.ex ?_ _ | with_reducible refine Below.al ?_ _ | with_reducible refine Below.setCell ?_ (by simp) _ | with_reducible refine Below.drew ?_)))).hp hD5 hl5 hk5
            have nt : ¬ (fun x => x = 1 ∨ x = 2) (lab wr.heap.size) := by rw [HP.out.md.hl _ (Nat.le_refl _)]; omega
            have t0 := hk5.cell (b := wr.heap.size) 0 (by simp) nt
            have t1 := hk5.cell (b := wr.heap.size) 1 (by simp) nt
            have t2 := hk5.cell (b := wr.heap.size) 2 (by simp) nt
            have t3 := hk5.cell (b := wr.heap.size) 3 (by simp) nt
            have t4 := hk5.cell (b := wr.heap.size) 4 (by simp) nt
            have t5 := hk5.cell (b := wr.heap.size) 5 (by simp) nt
            simp [go_sem, ↓IntWalk.iteOmega] at t0 t1 t2 t3 t4 t5
            have s5 := hk5.size
            simp at s5
            have HM5 := hid hM5
            clear hD5 hl5 hk5 hM5 q0 q1 q2 q3 q4 q5 lsb
            go_wp2_with (go_at_call 13; refine hold ?_)
            unfold Hid
            refine (st_all (o i) (lao i) (llen i) (lcap i) lab5 (w.heap.size + 1) k M _ HM5.out.md (by omega) (oprM HM5.out.bl HM5.out.hm hscr.out hlt (HN2.out i hlt))).mono ?_
            rintro e w7 ⟨⟨⟨yc, yv⟩, M'⟩, hY, v2, lab7, rfl, hI7, hm7, hl7, hf7, hk7⟩
            simp only at hI7 hm7
            have HM7 := hid (HM5.out.st hm7 hl7 hk7)
            obtain ⟨-, b2, -⟩ := bisim HR.out (fun T h => by cases h) HH.out (o i) (X := ((0, []), ⟨none, [], 0, MkS.new 0⟩)) (by unfold dkRel dkFun; have h18 := H18.out; rw [if_neg H14.out, if_neg H15.out, if_neg (by omega), if_neg (by omega), if_neg (by omega), if_pos h18]) hY
            have HR7 := hid b2
            clear hY hI7 hm7 hl7 hf7 hk7 b2
            go_wp2
            go_roundw
            case rel => exact ⟨i + 1, k + 1, [], 0, M', lab7, by go_num, by omega, by omega, HM7.out.below (by (repeat (first | with_reducible exact Below.rf _ | with_reducible exact World.below_ext _ _ | with_reducible refine Below.ex ?_ _ | with_reducible refine Below.al ?_ _ | with_reducible refine Below.setCell ?_ (by simp) _ | with_reducible refine Below.drew ?_))), HR7.out, fun i h1 h2 => by simp at h2⟩
            case measure => simp [intOf]; omega
          · have b18 : ((o i).K == 18) = false := by simp [h18]
            have H18 := hid h18
            clear h18
            go_wp2
            go_roundw
            case rel => exact ⟨i + 1, k, L, nx, M, lab, by go_num, by omega, by omega, HP.out.below (by (repeat (first | with_reducible exact Below.rf _ | with_reducible exact World.below_ext _ _ | with_reducible refine Below.ex ?_ _ | with_reducible refine Below.al ?_ _ | with_reducible refine Below.setCell ?_ (by simp) _ | with_reducible refine Below.drew ?_))), HR.out, HH.out⟩
            case measure => simp [intOf]; omega
    · obtain ⟨V, hX, h8, h9, h7, h10⟩ := hp.md.ex
      have c7 : wr.cell? ⟨w.heap.size + 1, 7, none⟩ = some (V 7) := hX.cv 7 (by omega) (by omega)
      have lm := hX.rd.lt
      have hlH : M.H.length ≤ 1000000 := by have := hp.md.bk.1; omega
      have hLH : L.length = M.H.length := hrl.hp.pm.length_eq
      have H7 := hid h7
      obtain ⟨ao7, cap7, e7, -⟩ := h7
      rw [e7] at c7 H7
      clear hp hrl hh hX h8 h9 h10 e7
      go_wp2_with (at_builtin; refine hold ?_)
      unfold Hid
      refine cp_ents rfl _ _ rfl lab _ M.H rfl rfl H7.out hlH ?_
      intro p cap' w2 hcp hb2
      have s2 := hb2.size
      have HCP := hid (hcp.below (w' := w2.alloc (.cells #[.slice p M.H.length cap'] 29)) (by (repeat (first | with_reducible exact Below.rf _ | with_reducible exact World.below_ext _ _ | with_reducible refine Below.ex ?_ _ | with_reducible refine Below.al ?_ _ | with_reducible refine Below.setCell ?_ (by simp) _ | with_reducible refine Below.drew ?_))))
      have HNE := hid hcp.ne
      have HB2 := hid (hb2.trans (Below.mono (B := w2.heap.size) (w' := w2.alloc (.cells #[.slice p M.H.length cap'] 29)) (by (repeat (first | with_reducible exact Below.rf _ | with_reducible exact World.below_ext _ _ | with_reducible refine Below.ex ?_ _ | with_reducible refine Below.al ?_ _ | with_reducible refine Below.setCell ?_ (by simp) _ | with_reducible refine Below.drew ?_))) s2))
      clear hcp hb2 c7 lm H7
      go_wp2_with (go_at_call 22; refine hold ?_)
      unfold Hid
      refine (sort22 wr.heap.size w2.heap.size cap' p M.H _ HCP.out hlH (by simp) (by simp; omega) HNE.out (by simp [go_sem, ↓IntWalk.iteOmega])).mono ?_
      rintro e w3 ⟨rfl, d', blk, hpi, hso, hbb, hbB, hkb, hrow⟩
      have hB3 : Below wr.heap.size wr w3 := HB2.out.trans (hkb.to_below hbb (by simp; omega))
      have hM3 := HP.out.below hB3
      have c7 := hkb.cell (k := w2.heap.size) 0 (by simp) hbB.symm
      simp [go_sem, ↓IntWalk.iteOmega] at c7
      have s3 := hkb.size
      simp at s3
      obtain ⟨hR3, hd3, hls⟩ := HR.out.hp.sorted hpi hso
      have SB := hid (show 0 < M.H.length → p = some ⟨blk, 0, none⟩ ∧ Sort.HoldsK encE 4 w3 blk 0 d' ∧ lab blk = 0 ∧ blk < w3.heap.size from fun h => ⟨(hrow h).1, (hrow h).2.2, HP.out.md.hl _ hbb, Nat.lt_of_lt_of_le (hrow h).2.1 hkb.size⟩)
      have HM3 := hid hM3
      have HR3 := hid hR3
      have HLS := hid hls
      have HLN := hid (show ∀ z, Calls Try.prog 24 #[.pointer (some ⟨w.heap.size, 0, none⟩)] (w3.ext z) fun e w' => e = .returned (.int .i64 (M.H.length)) ∧ w' = w3.ext z from fun z => by
        have := hlenY w.heap.size lab _ _ L nx (w3.ext z) (hM3.below (World.below_ext _ _)).dy
        rw [hLH] at this
        exact this)
      clear hM3 hR3 hls hpi hso hkb hrow hB3 HB2 HCP HNE
      go_wp2
      first | with_reducible refine wp_region_ext2 (by kernel_rfl) (by kernel_rfl) ?_ | refine wp_region_ext (by kernel_rfl) (by kernel_rfl) ?_
      repeat (go_big_quiet_step ((go_at_call 24; exact Calls.ext_of_same (HLN.out _))))
      refine wpQuiet_nil ?_
      rintro _ ⟨z, rfl⟩
      go_wp2
      go_loopw [70] (fun x wq => ∃ (j : Nat) (L1 : List Ent) (nx1 : Nat) (lab1 : Nat → Nat), x = .int .i64 (j) ∧ j ≤ M.H.length ∧ Mid w wq lab1 w.heap.size (w.heap.size + 1) k L1 nx1 M ∧ RH L1 nx1 (d'.toList.drop j) M.px ∧ isHeap L1 ∧ (0 < M.H.length → p = some ⟨blk, 0, none⟩ ∧ Sort.HoldsK encE 4 wq blk 0 d' ∧ lab1 blk = 0 ∧ blk < wq.heap.size)) (fun x _ => M.H.length - (intOf x).toNat)
      case atStart =>
        refine ⟨0, L, nx, lab, rfl, by omega, HM3.out.below (by (repeat (first | with_reducible exact Below.rf _ | with_reducible exact World.below_ext _ _ | with_reducible refine Below.ex ?_ _ | with_reducible refine Below.al ?_ _ | with_reducible refine Below.setCell ?_ (by simp) _ | with_reducible refine Below.drew ?_))), HR3.out, HH.out, fun h => ?_⟩
        obtain ⟨a1, a2, a3, a4⟩ := SB.out h
        exact ⟨a1, holds_blk a2 ((World.below_ext _ _).block _ a4), a3, by simp; omega⟩
      case round =>
        obtain ⟨j, L1, nx1, lab1, rfl, hj, hm1, hr1, hh1, hsb⟩ := hrel
        have HM1 := hid hm1
        have HR1 := hid hr1
        have HH1 := hid hh1
        have hl1 : L1.length ≤ 1000000 := by
          have := hr1.pm.length_eq
          simp at this
          omega
        by_cases hlt2 : j < M.H.length
        · obtain ⟨rfl, hho, hlb, hbl⟩ := hsb (by omega)
          obtain ⟨y, hy⟩ : ∃ y, d'[j]! = y := ⟨_, rfl⟩
          obtain ⟨p0, p1, p2, p3⟩ := holdsE hho (i := j) (by omega)
          rw [hy] at p0 p1 p2 p3
          have hne : L1 ≠ [] := fun e => by
            have := hr1.nil.1 e
            have := congrArg List.length this
            simp at this
            omega
          have hle := HLS.out j hlt2
          have hhd : at0 L1 0 = y := by
            rw [hr1.least hh1 hne hle, at0_drop, Nat.add_zero, at0_arr _ _ (by omega), hy]
          have HNE1 := hid hne
          have HLE := hid hle
          have HHD := hid hhd
          have HHO := hid hho
          have h56 := fun w => eq56 w y.1 y.2.1 y.2.2.1
          clear hm1 hr1 hh1 hsb hho hy hne hle hhd
          go_wp2_with (go_at_call 20; refine hold ?_)
          unfold Hid
          refine (hpopY w.heap.size lab1 _ _ L1 nx1 _ (HM1.out.below (by (repeat (first | with_reducible exact Below.rf _ | with_reducible exact World.below_ext _ _ | with_reducible refine Below.ex ?_ _ | with_reducible refine Below.al ?_ _ | with_reducible refine Below.setCell ?_ (by simp) _ | with_reducible refine Below.drew ?_)))).dy hl1 HH1.out).mono ?_
          rintro e w5 ⟨L', nx', ⟨hE, rfl, hh5, hpm⟩, lab5', hD5, hl5, hk5⟩
          obtain ⟨lab5, hM5, hl5'⟩ := (HM1.out.below (by (repeat (first | with_reducible exact Below.rf _ | with_reducible exact World.below_ext _ _ | with_reducible refine Below.ex ?_ _ | with_reducible refine Below.al ?_ _ | with_reducible refine Below.setCell ?_ (by simp) _ | with_reducible refine Below.drew ?_)))).hp hD5 hl5 hk5
          rcases hE with ⟨hE, -⟩ | ⟨-, rfl⟩
          · exact absurd hE HNE1.out
          rw [HHD.out]
          have nt : ¬ (fun x => x = 1 ∨ x = 2) (lab1 wr.heap.size) := by rw [HM1.out.md.hl _ (Nat.le_refl _)]; omega
          have t0 := hk5.cell (b := wr.heap.size) 0 (by simp) nt
          have t1 := hk5.cell (b := wr.heap.size) 1 (by simp) nt
          have t2 := hk5.cell (b := wr.heap.size) 2 (by simp) nt
          have t3 := hk5.cell (b := wr.heap.size) 3 (by simp) nt
          simp [go_sem, ↓IntWalk.iteOmega] at t0 t1 t2 t3
          have s5 := hk5.size
          simp at s5
          have hho5 := holds_blk HHO.out ((hk5.block blk (by simp; omega) (by rw [hlb]; omega)).trans ((Below.al (Below.rf wr) _).block blk hbl))
          have hlb5 : lab5 blk = 0 := (hl5' blk (by simp; omega)).trans hlb
          have HR5 : Hid (RH L' nx' (d'.toList.drop (j + 1)) M.px) := by
            rcases hpm with ⟨e, -⟩ | ⟨-, hpm⟩
            · exact absurd e HNE1.out
            · have := HR1.out.pop HH1.out HNE1.out HLE.out hpm
              rw [List.eraseIdx_zero, List.tail_drop] at this
              exact this
          have HM5 := hid hM5
          have HH5 := hid hh5
          have HHO5 := hid hho5
          clear hD5 hl5 hk5 hM5 hl5' hh5 hpm hho5 p0 p1 p2 p3
          go_wp2
          go_roundw
          case rel => exact ⟨j + 1, L', nx', lab5, by go_num, by omega, HM5.out.below (by (repeat (first | with_reducible exact Below.rf _ | with_reducible exact World.below_ext _ _ | with_reducible refine Below.ex ?_ _ | with_reducible refine Below.al ?_ _ | with_reducible refine Below.setCell ?_ (by simp) _ | with_reducible refine Below.drew ?_))), HR5.out, HH5.out, fun _ => ⟨by simp, holds_blk HHO5.out ((Below.al (Below.rf w5) _).block blk (by omega)), hlb5, by simp; omega⟩⟩
          case measure => simp [intOf]; omega
        · have hL0 : L1 = [] := hr1.nil.2 (List.drop_eq_nil_of_le (by simp; omega))
          have HL0 := hid hL0
          clear hm1 hr1 hh1 hsb hL0
          go_wp2_with (go_at_call 20; refine hold ?_)
          unfold Hid
          refine (hpopY w.heap.size lab1 _ _ L1 nx1 _ (HM1.out.below (by (repeat (first | with_reducible exact Below.rf _ | with_reducible exact World.below_ext _ _ | with_reducible refine Below.ex ?_ _ | with_reducible refine Below.al ?_ _ | with_reducible refine Below.setCell ?_ (by simp) _ | with_reducible refine Below.drew ?_)))).dy hl1 HH1.out).mono ?_
          rintro e w5 ⟨L', nx', ⟨hE, rfl, hh5, hpm⟩, lab5', hD5, hl5, hk5⟩
          obtain ⟨lab5, hM5, hl5'⟩ := (HM1.out.below (by (repeat (first | with_reducible exact Below.rf _ | with_reducible exact World.below_ext _ _ | with_reducible refine Below.ex ?_ _ | with_reducible refine Below.al ?_ _ | with_reducible refine Below.setCell ?_ (by simp) _ | with_reducible refine Below.drew ?_)))).hp hD5 hl5 hk5
          obtain ⟨-, rfl⟩ := hE.resolve_right (fun h => absurd HL0.out h.1)
          have HM5 := hid hM5
          clear hD5 hl5 hk5 hM5 hl5' hh5 hpm
          go_wp2
          go_ret
          exact ⟨rfl, (HM5.out.below (by (repeat (first | with_reducible exact Below.rf _ | with_reducible exact World.below_ext _ _ | with_reducible refine Below.ex ?_ _ | with_reducible refine Below.al ?_ _ | with_reducible refine Below.setCell ?_ (by simp) _ | with_reducible refine Below.drew ?_)))).bl⟩
theorem lawR5 (sb so n cap : Nat) (o : Nat → Opr) (lao : Nat → Option Addr) (llen lcap : Nat → Nat) (w : World) (hS : Scr w sb so n o lao llen lcap) (hn : n ≤ 9223372036854775807) :
    Calls Try.prog 5 #[.slice (some ⟨sb, so, none⟩) n cap] w fun e w' => e = .returned (.bool true) ∧ Below w.heap.size w w' :=
  lawG5 (some ⟨sb, so, none⟩) n cap o lao llen lcap w (fun _ _ => ⟨sb, so, rfl, hS⟩) (small_any sb so n cap o lao llen lcap w hS hn)
theorem law5_none (ao : Option Addr) (cap : Nat) (w : World) : Calls Try.prog 5 #[.slice ao 0 cap] w fun e w' => e = .returned (.bool true) ∧ Below w.heap.size w w' :=
  lawG5 ao 0 cap (fun _ => ⟨0, 0, 0, 0, 0, []⟩) (fun _ => none) (fun _ => 0) (fun _ => 0) w (fun i h => by omega) ((small_none ao cap w).mono fun e w' h => ⟨⟨true, h.1, fun _ => ⟨by omega, fun i h => by omega⟩⟩, h.2⟩)
end Go.Proofs.Qxb6500717a
