/-
  newGroups: the walk.
-/
import Derived.Test.Qxb6500715aFmtGr2
namespace Go.Proofs.Qxb6500715aFmt
open Go.RowKit
set_option linter.unusedSimpArgs false
set_option linter.unusedVariables false
def NgPost (n : Nat) (w : World) : Ending → World → Prop := fun e w' =>
  ∃ g pb sb s, e = .returned (.pointer (some ⟨g, 0, none⟩)) ∧ GrAt w' g pb sb n (fun x => x) s n ∧ w.heap.size ≤ g ∧ w.heap.size ≤ pb ∧ w.heap.size ≤ sb ∧ g < w'.heap.size ∧ pb < w'.heap.size ∧ sb < w'.heap.size ∧ Below w.heap.size w w'
def ngR (n : Nat) (w : World) : Act → Act → World → Prop := fun _ a' w' => ∃ g pb sb t5 t6 t7 t8 t9 t10, a'.tmps.getD 3 undef = .pointer (some ⟨g, 0, none⟩) ∧ a' = ⟨#[.int .i64 (n), undef, .pointer none, .pointer (some ⟨g, 0, none⟩), undef, t5, t6, t7, t8, t9, t10, .pointer (some ⟨g, 0, none⟩), undef, undef, undef, undef, undef, undef, undef, undef, undef, undef, undef, undef, undef, undef, undef, undef, undef, undef, undef, undef, undef, undef, undef], []⟩ ∧ w.heap.size ≤ g ∧ w.heap.size ≤ pb ∧ w.heap.size ≤ sb ∧ Below w.heap.size w w' ∧ GrAt w' g pb sb n (fun _ => 0) (fun _ => 0) n
set_option maxRecDepth 20000 in
set_option maxHeartbeats 4000000 in
theorem newGroups_any (n : Nat) (hn : n ≤ 1000) (w : World) : Calls Tryf.prog 29 #[.int .i64 (n)] w (NgPost n w) := by
  obtain ⟨Zs, hs1, hs2, hs3⟩ := make_is (P := Tryf.prog) 53 3 (.int .i64 0) 1 8 Tryf.underlying53 (by kernel_rfl) n (by omega) (by omega)
  have HS2 := hid hs2
  clear hs2
  go_enter Tryf.func29, Tryf.ntmps29
  go_wp2
  refine region_via (ngR n w) ?_ ?_
  · refine wp_region_tree 6 (fun _ => True) (.q 0 false (.q 2 false (.q 4 false (.two 1 3 (.one 3 true (.q 5 false (.one 6 false (.q 7 false .nil)))) (.one 1 true (.q 5 false (.one 6 false (.q 7 false .nil)))))))) (by kernel_rfl) (by kernel_rfl) (by kernel_rfl) trivial ?_
    repeat (first | (refine wpTr_qf (v := ?_) rfl rfl ?_ ?_; rotate_left; focus (intro w; go_simp; (try (with_reducible rfl)); done); try simp only [List.getElem_toArray, List.getElem_cons_zero, List.getElem_cons_succ, Act.put, List.setIfInBounds_toArray, List.set_cons_zero, List.set_cons_succ]) | (refine wpTr_qt (v := ?_) rfl rfl ?_ ?_; rotate_left; focus (intro w hSw; (try dsimp only at hSw); go_simp; (try (with_reducible rfl)); done); try simp only [List.getElem_toArray, List.getElem_cons_zero, List.getElem_cons_succ, Act.put, List.setIfInBounds_toArray, List.set_cons_zero, List.set_cons_succ]))
    refine wpTr_two rfl rfl rfl rfl (fun K hK => ?_) (fun K hK => ?_)
    · go_simp
      refine hK.out _ _ trivial ?_
      clear hK K
      refine wpTr_one rfl rfl (fun K hK => ?_)
      go_simp
      refine hK.out _ _ (fun _ => trivial) ?_
      clear hK K
      repeat (first | (refine wpTr_qf (v := ?_) rfl rfl ?_ ?_; rotate_left; focus (intro w; go_simp; (try (with_reducible rfl)); done); try simp only [List.getElem_toArray, List.getElem_cons_zero, List.getElem_cons_succ, Act.put, List.setIfInBounds_toArray, List.set_cons_zero, List.set_cons_succ]) | (refine wpTr_qt (v := ?_) rfl rfl ?_ ?_; rotate_left; focus (intro w hSw; (try dsimp only at hSw); go_simp; (try (with_reducible rfl)); done); try simp only [List.getElem_toArray, List.getElem_cons_zero, List.getElem_cons_succ, Act.put, List.setIfInBounds_toArray, List.set_cons_zero, List.set_cons_succ]))
      refine wpTr_one rfl rfl (fun K hK => ?_)
      go_simp
      refine hK.out _ _ (fun h => by cases h) ?_
      clear hK K
      repeat (first | (refine wpTr_qf (v := ?_) rfl rfl ?_ ?_; rotate_left; focus (intro w; go_simp; (try (with_reducible rfl)); done); try simp only [List.getElem_toArray, List.getElem_cons_zero, List.getElem_cons_succ, Act.put, List.setIfInBounds_toArray, List.set_cons_zero, List.set_cons_succ]) | (refine wpTr_qt (v := ?_) rfl rfl ?_ ?_; rotate_left; focus (intro w hSw; (try dsimp only at hSw); go_simp; (try (with_reducible rfl)); done); try simp only [List.getElem_toArray, List.getElem_cons_zero, List.getElem_cons_succ, Act.put, List.setIfInBounds_toArray, List.set_cons_zero, List.set_cons_succ]))
      refine wpTr_nil ?_
      refine NoPanic.normal ?_
      refine ⟨rfl, w.heap.size + 1 + 1, w.heap.size, w.heap.size + 1, _, _, _, _, _, _, rfl, rfl, by omega, by omega, by omega, by (repeat (first | with_reducible exact Below.rf _ | with_reducible exact World.below_ext _ _ | with_reducible refine Below.ex ?_ _ | with_reducible refine Below.al ?_ _ | with_reducible refine Below.setCell ?_ (by simp) _ | with_reducible refine Below.drew ?_)), ⟨⟨by simp; try omega, fun i hi => ?_, fun i hi => ?_⟩, ⟨by simp; try omega, fun i hi => ?_, fun i hi => ?_⟩, ⟨by simp; try omega, fun i hi => ?_, fun i hi => ?_⟩, by omega⟩⟩
      · rcases (by omega : i = 0 ∨ i = 1 ∨ i = 2) with rfl | rfl | rfl <;> simp [go_sem, ↓IntWalk.iteOmega, grc]
      · simp [go_sem, ↓IntWalk.iteOmega]
      · simp [go_sem, ↓IntWalk.iteOmega, HS2.out, hi, made1]
      · simp [go_sem, ↓IntWalk.iteOmega]
      · simp [go_sem, ↓IntWalk.iteOmega, HS2.out, hi, made1]
      · simp [go_sem, ↓IntWalk.iteOmega]
    · go_simp
      refine hK.out _ _ trivial ?_
      clear hK K
      refine wpTr_one rfl rfl (fun K hK => ?_)
      go_simp
      refine hK.out _ _ (fun _ => trivial) ?_
      clear hK K
      repeat (first | (refine wpTr_qf (v := ?_) rfl rfl ?_ ?_; rotate_left; focus (intro w; go_simp; (try (with_reducible rfl)); done); try simp only [List.getElem_toArray, List.getElem_cons_zero, List.getElem_cons_succ, Act.put, List.setIfInBounds_toArray, List.set_cons_zero, List.set_cons_succ]) | (refine wpTr_qt (v := ?_) rfl rfl ?_ ?_; rotate_left; focus (intro w hSw; (try dsimp only at hSw); go_simp; (try (with_reducible rfl)); done); try simp only [List.getElem_toArray, List.getElem_cons_zero, List.getElem_cons_succ, Act.put, List.setIfInBounds_toArray, List.set_cons_zero, List.set_cons_succ]))
      refine wpTr_one rfl rfl (fun K hK => ?_)
      go_simp
      refine hK.out _ _ (fun h => by cases h) ?_
      clear hK K
      repeat (first | (refine wpTr_qf (v := ?_) rfl rfl ?_ ?_; rotate_left; focus (intro w; go_simp; (try (with_reducible rfl)); done); try simp only [List.getElem_toArray, List.getElem_cons_zero, List.getElem_cons_succ, Act.put, List.setIfInBounds_toArray, List.set_cons_zero, List.set_cons_succ]) | (refine wpTr_qt (v := ?_) rfl rfl ?_ ?_; rotate_left; focus (intro w hSw; (try dsimp only at hSw); go_simp; (try (with_reducible rfl)); done); try simp only [List.getElem_toArray, List.getElem_cons_zero, List.getElem_cons_succ, Act.put, List.setIfInBounds_toArray, List.set_cons_zero, List.set_cons_succ]))
      refine wpTr_nil ?_
      refine NoPanic.normal ?_
      refine ⟨rfl, w.heap.size + 1 + 1, w.heap.size + 1, w.heap.size, _, _, _, _, _, _, rfl, rfl, by omega, by omega, by omega, by (repeat (first | with_reducible exact Below.rf _ | with_reducible exact World.below_ext _ _ | with_reducible refine Below.ex ?_ _ | with_reducible refine Below.al ?_ _ | with_reducible refine Below.setCell ?_ (by simp) _ | with_reducible refine Below.drew ?_)), ⟨⟨by simp; try omega, fun i hi => ?_, fun i hi => ?_⟩, ⟨by simp; try omega, fun i hi => ?_, fun i hi => ?_⟩, ⟨by simp; try omega, fun i hi => ?_, fun i hi => ?_⟩, by omega⟩⟩
      · rcases (by omega : i = 0 ∨ i = 1 ∨ i = 2) with rfl | rfl | rfl <;> simp [go_sem, ↓IntWalk.iteOmega, grc]
      · simp [go_sem, ↓IntWalk.iteOmega]
      · simp [go_sem, ↓IntWalk.iteOmega, HS2.out, hi, made1]
      · simp [go_sem, ↓IntWalk.iteOmega]
      · simp [go_sem, ↓IntWalk.iteOmega, HS2.out, hi, made1]
      · simp [go_sem, ↓IntWalk.iteOmega]
  · rintro _ w1 ⟨g, pb, sb, t5, t6, t7, t8, t9, t10, -, rfl, hg, hp, hs, hB, hG⟩
    have HB := hid hB
    have HG := hid hG
    have g0 : w1.cell? ⟨g, 0, none⟩ = some (.slice (some ⟨pb, 0, none⟩) n n) := hG.b.is 0 (by omega)
    have gl := hG.b.lt
    have HN := hid hn
    clear hB hG HS2 hs3 hs1
    go_wp2
    go_loopw [17] (fun v wr => ∃ (i : Nat) (sz : Nat → Int), v = .int .i64 (i) ∧ i ≤ n ∧ GrAt wr g pb sb n (fun x => if x < i then x else 0) sz n ∧ Kp (fun x => x = g ∨ x = pb ∨ x = sb) w1 wr) (fun v _ => n - (intOf v).toNat)
    case atStart => exact ⟨0, fun _ => 0, rfl, Nat.zero_le _, by simpa using HG.out, Kp.refl _ _⟩
    case round =>
      obtain ⟨i, sz, rfl, hi, hG, hK⟩ := hrel
      have HG2 := hid hG
      have HK2 := hid hK
      have n1 : ¬ g = pb := hG.ne.1
      have n2 : ¬ pb = g := fun e => hG.ne.1 e.symm
      have n3 : ¬ g = sb := hG.ne.2.1
      have n4 : ¬ sb = g := fun e => hG.ne.2.1 e.symm
      have n5 : ¬ pb = sb := hG.ne.2.2
      have n6 : ¬ sb = pb := fun e => hG.ne.2.2 e.symm
      have c0 : wr.cell? ⟨g, 0, none⟩ = some (.slice (some ⟨pb, 0, none⟩) n n) := hG.b.is 0 (by omega)
      have c1 : wr.cell? ⟨g, 1, none⟩ = some (.slice (some ⟨sb, 0, none⟩) n n) := hG.b.is 1 (by omega)
      have gl := hG.b.lt
      have pl := hG.pp.lt
      have sl := hG.ss.lt
      by_cases e : i < n
      · have di : decide ((i : Int) < (n : Int)) = true := by simp; omega
        have dj : decide (i < n) = true := by simp; omega
        have pi := hG.pp.is i e
        have pz := hG.pp.fz i e
        have si := hG.ss.is i e
        have sf := hG.ss.fz i e
        clear hG hK
        go_wp2
        go_roundw
        case rel =>
          refine ⟨i + 1, updG sz i 1, by simp, by omega, ?_, ?_⟩
          · have h3 := (HG2.out.setP i i e).setS i 1 e
            have h4 : setp (fun x => if x < i then x else 0) i i = (fun x => if x < i + 1 then x else 0) := by
              funext x
              unfold setp
              by_cases h5 : x = i
              · subst h5; simp
              · simp only [h5, if_false]
                by_cases h6 : x < i
                · rw [if_pos h6, if_pos (by omega)]
                · rw [if_neg h6, if_neg (by omega)]
            rw [h4] at h3
            exact h3
          · exact (HK2.out.set (Or.inr (Or.inl rfl)) _).set (Or.inr (Or.inr rfl)) _
        case measure => simp [intOf]; omega
      · have di : decide ((i : Int) < (n : Int)) = false := by simp; omega
        have hie : i = n := by omega
        subst hie
        clear hG hK
        go_wp2
        go_ret
        refine ⟨g, pb, sb, sz, rfl, ⟨HG2.out.b, HG2.out.pp.congr (fun j hj => by simp [hj]), HG2.out.ss, HG2.out.ne⟩, hg, hp, hs, gl, pl, sl, HB.out.trans (HK2.out.below HB.out.size ?_)⟩
        rintro k hk (h5 | h5 | h5) <;> omega
end Go.Proofs.Qxb6500715aFmt
