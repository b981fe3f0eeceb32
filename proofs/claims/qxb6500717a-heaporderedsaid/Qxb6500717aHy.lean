/-
  The heap's exact operations, the heap in a block of its own (written by tools/scratch/portHy.py out of Hp, Hx to Hx4).
-/
import Derived.Test.Qxb6500717aHx4
namespace Go.Proofs.Qxb6500717a
open Go.RowKit
set_option linter.unusedSimpArgs false
set_option linter.unusedVariables false
theorem sink_nilY (d : Nat) (ao : Option Addr) (cap : Nat) (w : World) (hd : d < w.heap.size) (c1 : w.cell? ⟨d, 0, none⟩ = some (.slice ao 0 cap)) :
    Calls Try.prog 72 #[.pointer (some ⟨d, 0, none⟩), .int .i64 (0)] w fun e w' => e = .returned (.tuple #[]) ∧ w' = w := by
  go_enter Try.func72, Try.ntmps72
  go_wp2
  go_loopw [1] (fun x wr => x = .int .i64 (0) ∧ wr = w) (fun _ _ => 0)
  case atStart => exact ⟨rfl, rfl⟩
  case round =>
    obtain ⟨rfl, rfl⟩ := hrel
    go_wp2
    go_loopw [5, 6] (fun y x w2 => x = .int .i64 (1) ∧ y = .int .i64 (0) ∧ w2 = wr) (fun _ _ _ => 0)
    case atStart => exact ⟨rfl, rfl, rfl⟩
    case round =>
      obtain ⟨rfl, rfl, rfl⟩ := hrel
      go_wp2
      refine bodyPost_ret (v := .tuple #[]) (by simp [results, Try.results72]) rfl ?_
      exact ⟨rfl, rfl⟩

set_option maxRecDepth 20000 in
set_option maxHeartbeats 4000000 in
theorem sinkY_any (d b cap n : Nat) (L : List Ent) (w : World) (hd : d < w.heap.size) (c1 : w.cell? ⟨d, 0, none⟩ = some (.slice (some ⟨b, 0, none⟩) n cap)) (hn : 1 ≤ n ∧ n ≤ 1000000) (hL : L.length = n) (hb : HX w b cap L) (hdn : dnAt L 0) (hne : b ≠ d) :
    Calls Try.prog 72 #[.pointer (some ⟨d, 0, none⟩), .int .i64 (0)] w (sinkXPost b cap L w) := by
  have HH := hid hb
  have hcn := hb.le
  have HDN := hid hdn
  have HL := hid hL
  clear hb hdn hL
  go_enter Try.func72, Try.ntmps72
  go_wp2
  go_loopw [1] (fun x wr => ∃ (i : Nat) (L2 : List Ent), x = .int .i64 (i) ∧ i < n ∧ HX wr b cap L2 ∧ L2.length = n ∧ L2.Perm L ∧ dnAt L2 i ∧ KeptBut b w wr) (fun x _ => n - (intOf x).toNat)
  case atStart => exact ⟨0, L, rfl, by omega, HH.out, HL.out, List.Perm.refl _, HDN.out, KeptBut.refl b w⟩
  case round =>
    obtain ⟨i, L2, rfl, hi, hB, hln, hpm, hdA, hK⟩ := hrel
    have d1 : d < wr.heap.size := Nat.lt_of_lt_of_le hd hK.size
    have c1' : wr.cell? ⟨d, 0, none⟩ = some (.slice (some ⟨b, 0, none⟩) n cap) := (hK.cell 0 hd (Ne.symm hne)).trans c1
    have HB1 := hid hB
    have HK := hid hK
    have C1 := hid c1
    have HLN := hid hln
    have HPM := hid hpm
    have HDA := hid hdA
    clear c1 hB hK hpm hdA
    go_wp2
    go_loopw [5, 6] (fun y x w2 => ∃ l c : Nat, x = .int .i64 (c) ∧ y = .int .i64 (l) ∧ 2 * i + 1 ≤ c ∧ c ≤ 2 * i + 3 ∧ (l = i ∨ ((l = 2 * i + 1 ∨ l = 2 * i + 2) ∧ l < c)) ∧ l < n ∧ (l ≠ i → Lt (at0 L2 l) (at0 L2 i)) ∧ (∀ j, 2 * i + 1 ≤ j → j < c → j < n → ¬ Lt (at0 L2 j) (at0 L2 l)) ∧ HX w2 b cap L2 ∧ KeptBut b w w2) (fun _ x _ => 2 * i + 3 - (intOf x).toNat)
    case atStart => exact ⟨i, 2 * i + 1, by go_num, rfl, by omega, by omega, Or.inl rfl, by omega, fun h => absurd rfl h, fun j h1 h2 => by omega, HB1.out, HK.out⟩
    case round =>
      clear d1 c1'
      obtain ⟨l, c, rfl, rfl, hc1, hc2, hl1, hl2, hli0, hmin, hB2, hK2⟩ := hrel
      have HB2 := hid hB2
      have HK2 := hid hK2
      have HLI0 := hid hli0
      have HMIN := hid hmin
      have HL1 := hid hl1
      have d2 : d < wr.heap.size := Nat.lt_of_lt_of_le hd hK2.size
      have e2 : wr.cell? ⟨d, 0, none⟩ = some (.slice (some ⟨b, 0, none⟩) n cap) := (hK2.cell 0 hd (Ne.symm hne)).trans C1.out
      have lb := hB2.lt
      clear hli0 hmin hl1
      by_cases hcc : c ≤ 2 * i + 2 ∧ c < n
      · have hcn2 := hcc.2
        have hc3 := hcc.1
        obtain ⟨p0, p1, p2, p3, -⟩ := hB2.at (i := c) (by omega)
        obtain ⟨q0, q1, q2, q3, -⟩ := hB2.at (i := l) (by omega)
        have HBF := hid (bef_lt (at0 L2 c) (at0 L2 l))
        clear hB2 hK2 hcc
        go_wp2
        first | with_reducible refine wp_region_ext2 (by kernel_rfl) (by kernel_rfl) ?_ | refine wp_region_ext (by kernel_rfl) (by kernel_rfl) ?_
        repeat (go_big_quiet_step ((go_at_call 71; exact Calls.ext_of (before_any _ _ _ _ _ _ _ _ _))))
        refine wpQuiet_nil ?_
        rintro _ ⟨z, rfl⟩
        generalize hr : bef (at0 L2 c).1 (at0 L2 c).2.1 (at0 L2 c).2.2.2 (at0 L2 l).1 (at0 L2 l).2.1 (at0 L2 l).2.2.2 = r
        have HR := hid hr
        clear hr
        cases r with
        | true =>
          have hlt := HBF.out.1 HR.out
          have HLT := hid hlt
          clear hlt
          go_wp2
          go_roundw
          case rel =>
            refine ⟨c, c + 1, by go_num, rfl, by omega, by omega, Or.inr ⟨by omega, by omega⟩, by omega, fun _ => ?_, fun j h1 h2 h3 => ?_, HB2.out.below (by (repeat (first | with_reducible exact Below.rf _ | with_reducible exact World.below_ext _ _ | with_reducible refine Below.ex ?_ _ | with_reducible refine Below.al ?_ _ | with_reducible refine Below.setCell ?_ (by simp) _ | with_reducible refine Below.drew ?_))), HK2.out.ex _⟩
            · by_cases e : l = i
              · have := HLT.out; rwa [e] at this
              · exact lt_trans HLT.out (HLI0.out e)
            · by_cases e : j = c
              · rw [e]; exact lt_irrefl _
              · exact fun h => HMIN.out j h1 (by omega) h3 (lt_trans h HLT.out)
          case measure => simp [intOf]; omega
        | false =>
          have hlt : ¬ Lt (at0 L2 c) (at0 L2 l) := fun h => by have := HBF.out.2 h; rw [HR.out] at this; cases this
          have HLT := hid hlt
          clear hlt
          go_wp2
          go_roundw
          case rel =>
            refine ⟨l, c + 1, by go_num, rfl, by omega, by omega, ?_, by omega, HLI0.out, fun j h1 h2 h3 => ?_, HB2.out.below (by (repeat (first | with_reducible exact Below.rf _ | with_reducible exact World.below_ext _ _ | with_reducible refine Below.ex ?_ _ | with_reducible refine Below.al ?_ _ | with_reducible refine Below.setCell ?_ (by simp) _ | with_reducible refine Below.drew ?_))), HK2.out.ex _⟩
            · have := HL1.out; omega
            · by_cases e : j = c
              · rw [e]; exact HLT.out
              · exact HMIN.out j h1 (by omega) h3
          case measure => simp [intOf]; omega
      · have HC := hid hcc
        have hcc2 : ∀ j, 2 * i + 1 ≤ j → j ≤ 2 * i + 2 → j < n → ¬ Lt (at0 L2 j) (at0 L2 l) := fun j h1 h2 h3 => HMIN.out j h1 (by omega) h3
        have HCC := hid hcc2
        clear hcc hcc2
        by_cases hli : l = i
        · have b1 : ((l : Int) == i) = true := by simp; omega
          have HHEAP := hid (show isHeap L2 from dn_done HDA.out (fun h => by have := HCC.out (2 * i + 1) (by omega) (by omega) (by omega); rwa [hli] at this) (fun h => by have := HCC.out (2 * i + 2) (by omega) (by omega) (by omega); rwa [hli] at this))
          have HLI := hid hli
          clear hB2 hK2 hli
          by_cases hc4 : c ≤ 2 * i + 2
          · have hc5 : ¬ c < n := fun h => HC.out ⟨hc4, h⟩
            go_wp2
            refine bodyPost_ret (v := .tuple #[]) (by simp [results, Try.results72]) rfl ?_
            exact ⟨rfl, L2, HB2.out, HPM.out, HHEAP.out, HK2.out⟩
          · go_wp2
            refine bodyPost_ret (v := .tuple #[]) (by simp [results, Try.results72]) rfl ?_
            exact ⟨rfl, L2, HB2.out, HPM.out, HHEAP.out, HK2.out⟩
        · have b1 : ((l : Int) == i) = false := by simp; omega
          obtain ⟨p0, p1, p2, p3, f0, f1, f2, f3⟩ := hB2.at (i := i) (by omega)
          obtain ⟨q0, q1, q2, q3, g0, g1, g2, g3⟩ := hB2.at (i := l) (by omega)
          have hl1 := HL1.out
          have HST := hid (dn_step HDA.out (by omega) (show l < L2.length by omega) (by omega) (HLI0.out hli) (fun h => HCC.out (2 * i + 1) (by omega) (by omega) (by omega)) (fun h => HCC.out (2 * i + 2) (by omega) (by omega) (by omega)))
          clear hB2 hK2
          by_cases hc4 : c ≤ 2 * i + 2
          · have hc5 : ¬ c < n := fun h => HC.out ⟨hc4, h⟩
            go_wp2
            refine wp_region_tree 25 (fun w' => w'.cell? ⟨d, 0, none⟩ = some (.slice (some ⟨b, 0, none⟩) n cap) ∧ w'.cell? ⟨b, i * 4, none⟩ = some (.int .i64 ((at0 L2 i).1)) ∧ w'.cell? ⟨b, i * 4 + 1, none⟩ = some (.int .i64 ((at0 L2 i).2.1)) ∧ w'.cell? ⟨b, i * 4 + 2, none⟩ = some (.int .i64 ((at0 L2 i).2.2.1)) ∧ w'.cell? ⟨b, i * 4 + 3, none⟩ = some (.int .i64 ((at0 L2 i).2.2.2)) ∧ w'.cell? ⟨b, l * 4, none⟩ = some (.int .i64 ((at0 L2 l).1)) ∧ w'.cell? ⟨b, l * 4 + 1, none⟩ = some (.int .i64 ((at0 L2 l).2.1)) ∧ w'.cell? ⟨b, l * 4 + 2, none⟩ = some (.int .i64 ((at0 L2 l).2.2.1)) ∧ w'.cell? ⟨b, l * 4 + 3, none⟩ = some (.int .i64 ((at0 L2 l).2.2.2))) (.q 0 false (.q 1 false (.q 2 false (.q 3 true (.q 4 false (.q 5 false (.q 6 false (.q 7 false (.q 8 true (.q 9 false (.q 10 false (.q 11 false (.q 12 false (.q 13 true (.q 14 false (.q 15 false (.q 16 true (.q 17 false (.q 18 false (.q 19 false (.q 20 true (.q 21 false (.q 22 false (.q 23 true (.one 24 true (.one 25 false (.one 26 false (.one 27 false (.nil))))))))))))))))))))))))))))) (by kernel_rfl) (by kernel_rfl) (by kernel_rfl) ?_ ?_
            · simp [go_sem, ↓IntWalk.iteOmega, *]
            repeat (first | (refine wpTr_qf (v := ?_) rfl rfl ?_ ?_; rotate_left; focus (intro w; go_simp; (try (with_reducible rfl)); done); try simp only [List.getElem_toArray, List.getElem_cons_zero, List.getElem_cons_succ, Act.put, List.setIfInBounds_toArray, List.set_cons_zero, List.set_cons_succ]) | (refine wpTr_qt (v := ?_) rfl rfl ?_ ?_; rotate_left; focus (intro w hSw; (try dsimp only at hSw); go_simp; (try (with_reducible rfl)); done); try simp only [List.getElem_toArray, List.getElem_cons_zero, List.getElem_cons_succ, Act.put, List.setIfInBounds_toArray, List.set_cons_zero, List.set_cons_succ]))
            refine wpTr_one rfl rfl (fun K hK => ?_)
            go_simp
            refine hK.out _ _ (fun _ => by simp [go_sem, ↓IntWalk.iteOmega, *]) ?_
            clear hK K
            refine wpTr_one rfl rfl (fun K hK => ?_)
            go_simp
            refine hK.out _ _ (fun h => by cases h) ?_
            clear hK K
            generalize hW : World.drew (World.setCell (World.setCell (World.setCell (World.setCell wr _ _) _ _) _ _) _ _) = w5
            have hb5 : HX w5 b cap (L2.set i (at0 L2 l)) := by rw [← hW]; exact (HB2.out.put (by omega) (at0 L2 l)).below (Below.rf _).drew
            have hk5 : KeptBut b w w5 := by rw [← hW]; exact KeptBut.below ((((HK2.out.set' _ _).set' _ _).set' _ _).set' _ _) (Below.rf _).drew (by simpa using HK2.out.size)
            have HB5 := hid hb5
            have HK5 := hid hk5
            have lb5 := hb5.lt
            obtain ⟨s0, s1, s2, s3, t0, t1, t2, t3⟩ := hb5.at (i := l) (by rw [List.length_set]; omega)
            clear hW hb5 hk5 p0 p1 p2 p3 q0 q1 q2 q3 f0 f1 f2 f3 g0 g1 g2 g3 lb d2 e2
            refine wpTr_one rfl rfl (fun K hK => ?_)
            go_simp
            refine hK.out _ _ (fun h => by cases h) ?_
            clear hK K
            refine wpTr_one rfl rfl (fun K hK => ?_)
            go_simp
            refine hK.out _ _ (fun h => by cases h) ?_
            clear hK K
            refine wpTr_nil ?_
            refine NoPanic.normal ?_
            go_wp2
            go_roundw
            case rel => exact ⟨l, swp L2 i l, rfl, hl2, HB5.out.put (by rw [List.length_set]; omega) (at0 L2 i), by rw [swp_len]; exact HLN.out, (swp_perm L2 i l (by omega) (by omega)).trans HPM.out, HST.out, (((HK5.out.set' _ _).set' _ _).set' _ _).set' _ _⟩
            case measure => simp [intOf]; omega
          · go_wp2
            refine wp_region_tree 25 (fun w' => w'.cell? ⟨d, 0, none⟩ = some (.slice (some ⟨b, 0, none⟩) n cap) ∧ w'.cell? ⟨b, i * 4, none⟩ = some (.int .i64 ((at0 L2 i).1)) ∧ w'.cell? ⟨b, i * 4 + 1, none⟩ = some (.int .i64 ((at0 L2 i).2.1)) ∧ w'.cell? ⟨b, i * 4 + 2, none⟩ = some (.int .i64 ((at0 L2 i).2.2.1)) ∧ w'.cell? ⟨b, i * 4 + 3, none⟩ = some (.int .i64 ((at0 L2 i).2.2.2)) ∧ w'.cell? ⟨b, l * 4, none⟩ = some (.int .i64 ((at0 L2 l).1)) ∧ w'.cell? ⟨b, l * 4 + 1, none⟩ = some (.int .i64 ((at0 L2 l).2.1)) ∧ w'.cell? ⟨b, l * 4 + 2, none⟩ = some (.int .i64 ((at0 L2 l).2.2.1)) ∧ w'.cell? ⟨b, l * 4 + 3, none⟩ = some (.int .i64 ((at0 L2 l).2.2.2))) (.q 0 false (.q 1 false (.q 2 false (.q 3 true (.q 4 false (.q 5 false (.q 6 false (.q 7 false (.q 8 true (.q 9 false (.q 10 false (.q 11 false (.q 12 false (.q 13 true (.q 14 false (.q 15 false (.q 16 true (.q 17 false (.q 18 false (.q 19 false (.q 20 true (.q 21 false (.q 22 false (.q 23 true (.one 24 true (.one 25 false (.one 26 false (.one 27 false (.nil))))))))))))))))))))))))))))) (by kernel_rfl) (by kernel_rfl) (by kernel_rfl) ?_ ?_
            · simp [go_sem, ↓IntWalk.iteOmega, *]
            repeat (first | (refine wpTr_qf (v := ?_) rfl rfl ?_ ?_; rotate_left; focus (intro w; go_simp; (try (with_reducible rfl)); done); try simp only [List.getElem_toArray, List.getElem_cons_zero, List.getElem_cons_succ, Act.put, List.setIfInBounds_toArray, List.set_cons_zero, List.set_cons_succ]) | (refine wpTr_qt (v := ?_) rfl rfl ?_ ?_; rotate_left; focus (intro w hSw; (try dsimp only at hSw); go_simp; (try (with_reducible rfl)); done); try simp only [List.getElem_toArray, List.getElem_cons_zero, List.getElem_cons_succ, Act.put, List.setIfInBounds_toArray, List.set_cons_zero, List.set_cons_succ]))
            refine wpTr_one rfl rfl (fun K hK => ?_)
            go_simp
            refine hK.out _ _ (fun _ => by simp [go_sem, ↓IntWalk.iteOmega, *]) ?_
            clear hK K
            refine wpTr_one rfl rfl (fun K hK => ?_)
            go_simp
            refine hK.out _ _ (fun h => by cases h) ?_
            clear hK K
            generalize hW : World.drew (World.setCell (World.setCell (World.setCell (World.setCell wr _ _) _ _) _ _) _ _) = w5
            have hb5 : HX w5 b cap (L2.set i (at0 L2 l)) := by rw [← hW]; exact (HB2.out.put (by omega) (at0 L2 l)).below (Below.rf _).drew
            have hk5 : KeptBut b w w5 := by rw [← hW]; exact KeptBut.below ((((HK2.out.set' _ _).set' _ _).set' _ _).set' _ _) (Below.rf _).drew (by simpa using HK2.out.size)
            have HB5 := hid hb5
            have HK5 := hid hk5
            have lb5 := hb5.lt
            obtain ⟨s0, s1, s2, s3, t0, t1, t2, t3⟩ := hb5.at (i := l) (by rw [List.length_set]; omega)
            clear hW hb5 hk5 p0 p1 p2 p3 q0 q1 q2 q3 f0 f1 f2 f3 g0 g1 g2 g3 lb d2 e2
            refine wpTr_one rfl rfl (fun K hK => ?_)
            go_simp
            refine hK.out _ _ (fun h => by cases h) ?_
            clear hK K
            refine wpTr_one rfl rfl (fun K hK => ?_)
            go_simp
            refine hK.out _ _ (fun h => by cases h) ?_
            clear hK K
            refine wpTr_nil ?_
            refine NoPanic.normal ?_
            go_wp2
            go_roundw
            case rel => exact ⟨l, swp L2 i l, rfl, hl2, HB5.out.put (by rw [List.length_set]; omega) (at0 L2 i), by rw [swp_len]; exact HLN.out, (swp_perm L2 i l (by omega) (by omega)).trans HPM.out, HST.out, (((HK5.out.set' _ _).set' _ _).set' _ _).set' _ _⟩
            case measure => simp [intOf]; omega
/-- The desk, its heap exactly: the nodes L, nx the number of the next push. -/
structure DY (w : World) (lab : Nat → Nat) (d : Nat) (tv mv : Value) (L : List Ent) (nx : Nat) : Prop where
  ld : lab d = 1
  lt : d < w.heap.size
  c0 : w.cell? ⟨d, 7, none⟩ = none
  c2 : w.cell? ⟨d, 1, none⟩ = some (.int .i64 (nx))
  c3 : w.cell? ⟨d, 8, none⟩ = none
  fz : ∀ i, i < 4 → w.frozen? ⟨d, i, none⟩ = false
  hp : ∃ (ao : Option Addr) (cap : Nat), w.cell? ⟨d, 0, none⟩ = some (.slice ao L.length cap) ∧ L.length ≤ cap ∧ ((ao = none ∧ cap = 0) ∨ ∃ b, ao = some ⟨b, 0, none⟩ ∧ lab b = 2 ∧ 1 ≤ cap ∧ HX w b cap L)
section
variable {w w' : World} {lab lab' : Nat → Nat} {d nx : Nat} {tv mv : Value} {L : List Ent}
theorem DY.of (h : DY w lab d tv mv L nx) (hs : w.heap.size ≤ w'.heap.size) (hl : ∀ j, j < w.heap.size → lab' j = lab j) (hb : ∀ j, j < w.heap.size → lab j = 1 ∨ lab j = 2 → w'.heap[j]? = w.heap[j]?) : DY w' lab' d tv mv L nx := by
  have e := hb d h.lt (Or.inl h.ld)
  have ce : ∀ i, w'.cell? ⟨d, i, none⟩ = w.cell? ⟨d, i, none⟩ := fun i => World.cell?_of_block e
  refine ⟨(hl d h.lt).trans h.ld, Nat.lt_of_lt_of_le h.lt hs, (ce 7).trans h.c0, (ce 1).trans h.c2, (ce 8).trans h.c3, fun i hi => (World.frozen?_of_block e).trans (h.fz i hi), ?_⟩
  obtain ⟨ao, cap, h1, h5, h6⟩ := h.hp
  refine ⟨ao, cap, (ce 0).trans h1, h5, ?_⟩
  rcases h6 with h6 | ⟨b, e1, e2, e3, e4⟩
  · exact Or.inl h6
  · exact Or.inr ⟨b, e1, (hl b e4.lt).trans e2, e3, Pad.of_block e4 hs (hb b e4.lt (Or.inr e2))⟩
theorem DY.below (h : DY w lab d tv mv L nx) (hb : Below w.heap.size w w') : DY w' lab d tv mv L nx := h.of hb.size (fun _ _ => rfl) (fun j hj _ => hb.block j hj)
end
def hpYPost (lab : Nat → Nat) (d : Nat) (tv mv : Value) (X : Ending → List Ent → Nat → Prop) (w : World) (e : Ending) (w' : World) : Prop :=
  ∃ (L' : List Ent) (nx' : Nat), X e L' nx' ∧ ∃ lab', DY w' lab' d tv mv L' nx' ∧ (∀ j, j < w.heap.size → lab' j = lab j) ∧ KeptL lab (fun x => x = 1 ∨ x = 2) w w'

theorem hlenY (d : Nat) (lab : Nat → Nat) (tv mv : Value) (L : List Ent) (nx : Nat) (w : World) (h : DY w lab d tv mv L nx) : Calls Try.prog 24 #[.pointer (some ⟨d, 0, none⟩)] w fun e w' => e = .returned (.int .i64 (L.length)) ∧ w' = w := by
  obtain ⟨ao, cap, h1, h5, h6⟩ := h.hp
  have l1 := h.lt
  clear h h6
  go_enter Try.func24, Try.ntmps24
  go_wp2
  go_ret
  exact ⟨rfl, rfl⟩

theorem hresetY (d : Nat) (lab : Nat → Nat) (tv mv : Value) (L : List Ent) (nx : Nat) (w : World) (h : DY w lab d tv mv L nx) : Calls Try.prog 21 #[.pointer (some ⟨d, 0, none⟩)] w (hpYPost lab d tv mv (fun e L' nx' => e = .returned (.tuple #[]) ∧ L' = [] ∧ nx' = 0) w) := by
  have HH := hid h
  obtain ⟨ao, cap, h1, h5, h6⟩ := h.hp
  have l1 := h.lt
  have h2 := h.c2
  have f1 := h.fz 0 (by omega)
  have f2 := h.fz 1 (by omega)
  have hsl : ∀ w, (Instr.sliceAt 43 (.slice ao L.length cap) none (some (.int .i64 (0))) none).run Try.prog w = .ok (.slice ao 0 cap) w := by
    rcases h6 with ⟨rfl, rfl⟩ | ⟨b, rfl, e2, e3, e4⟩
    · have e0 : L.length = 0 := by omega
      rw [e0]
      exact slice_hnil
    · exact slice_hp b 0 L.length cap (by omega) (by omega)
  have H6 := hid h6
  clear h h6
  go_enter Try.func21, Try.ntmps21
  go_wp2
  refine bodyPost_end (v := .tuple #[]) (by simp [results, Try.results21]) rfl ?_
  refine ⟨[], 0, ⟨rfl, rfl, rfl⟩, lab, ?_, fun _ _ => rfl, ((KeptL.refl lab _ w).set (Or.inl HH.out.ld) _).set (Or.inl HH.out.ld) _⟩
  refine ⟨HH.out.ld, by simpa using l1, by simp [go_sem, ↓IntWalk.iteOmega]; exact HH.out.c0, by simp [go_sem, ↓IntWalk.iteOmega, *], by simp [go_sem, ↓IntWalk.iteOmega]; exact HH.out.c3, fun i hi => by rw [World.frozen?_setCell, World.frozen?_setCell]; exact HH.out.fz i hi, ao, cap, by simp [go_sem, ↓IntWalk.iteOmega, *], by simp, ?_⟩
  rcases H6.out with h6 | ⟨b, e1, e2, e3, e4⟩
  · exact Or.inl h6
  · have hne : b ≠ d := fun e => by have := HH.out.ld; rw [← e, e2] at this; omega
    exact Or.inr ⟨b, e1, e2, e3, ((e4.take 0).kept ((KeptBut.refl d w).set' _ _) hne).kept ((KeptBut.refl d _).set' _ _) hne⟩

theorem sinkY_all (d b cap n : Nat) (L : List Ent) (w : World) (hd : d < w.heap.size) (c1 : w.cell? ⟨d, 0, none⟩ = some (.slice (some ⟨b, 0, none⟩) n cap)) (hn : n ≤ 1000000) (hL : L.length = n) (hb : HX w b cap L) (hdn : dnAt L 0) (hne : b ≠ d) :
    Calls Try.prog 72 #[.pointer (some ⟨d, 0, none⟩), .int .i64 (0)] w (sinkXPost b cap L w) := by
  cases n with
  | zero =>
    have hnil : L = [] := List.length_eq_zero_iff.1 hL
    refine (sink_nilY d _ cap w hd c1).mono (fun e w' h => ⟨h.1, L, by rw [h.2]; exact hb, List.Perm.refl _, ?_, by rw [h.2]; exact KeptBut.refl b w⟩)
    intro i _ hi
    omega
  | succ n => exact sinkY_any d b cap (n + 1) L w hd c1 (by omega) hL hb hdn hne

set_option maxRecDepth 20000 in
set_option maxHeartbeats 4000000 in
theorem hpopY (d : Nat) (lab : Nat → Nat) (tv mv : Value) (L : List Ent) (nx : Nat) (w : World) (h : DY w lab d tv mv L nx) (hk : L.length ≤ 1000000) (hheap : isHeap L) : Calls Try.prog 20 #[.pointer (some ⟨d, 0, none⟩)] w (hpYPost lab d tv mv (popX L nx) w) := by
  have HH := hid h
  obtain ⟨ao, cap, h1, h5, h6⟩ := h.hp
  have l1 := h.lt
  have h2 := h.c2
  have HHP := hid hheap
  clear hheap
  cases hL : L with
  | nil =>
    subst hL
    clear h h6
    go_enter Try.func20, Try.ntmps20
    go_wp2
    refine bodyPost_ret (v := .tuple #[.agg #[.int .i64 (0), .int .i64 (0), .int .i64 (0)], .bool false]) (by simp [results, Try.results20, go_sem, ↓IntWalk.iteOmega]) rfl ?_
    refine ⟨[], nx, ⟨Or.inl ⟨rfl, rfl⟩, rfl, HHP.out, Or.inl ⟨rfl, rfl⟩⟩, lab, HH.out.below ?_, fun _ _ => rfl, KeptL.of_below ?_⟩
    · (repeat (first | with_reducible exact Below.rf _ | with_reducible exact World.below_ext _ _ | with_reducible refine Below.ex ?_ _ | with_reducible refine Below.al ?_ _ | with_reducible refine Below.setCell ?_ (by simp) _ | with_reducible refine Below.drew ?_))
    · (repeat (first | with_reducible exact Below.rf _ | with_reducible exact World.below_ext _ _ | with_reducible refine Below.ex ?_ _ | with_reducible refine Below.al ?_ _ | with_reducible refine Below.setCell ?_ (by simp) _ | with_reducible refine Below.drew ?_))
  | cons a L0 =>
    rw [← hL]
    obtain ⟨n, hn⟩ : ∃ n, L.length = n + 1 := ⟨L0.length, by rw [hL]; rfl⟩
    have HNE := hid (show L ≠ [] by rw [hL]; simp)
    have HLEN := hid hn
    clear hL
    rw [hn] at h1 h5
    rcases h6 with ⟨rfl, rfl⟩ | ⟨b, rfl, e2, e3, e4⟩
    · omega
    have hne : b ≠ d := fun e => by have := HH.out.ld; rw [← e, e2] at this; omega
    obtain ⟨p0, p1, p2, p3, g0, g1, g2, g3⟩ := e4.at (i := 0) (by omega)
    obtain ⟨q0, q1, q2, q3, -⟩ := e4.at (i := n) (by omega)
    obtain ⟨A0, hA0⟩ : ∃ x, at0 L 0 = x := ⟨_, rfl⟩
    obtain ⟨AN, hAN⟩ : ∃ x, at0 L n = x := ⟨_, rfl⟩
    rw [hA0] at p0 p1 p2 p3
    rw [hAN] at q0 q1 q2 q3
    have HA0 := hid hA0
    have HAN := hid hAN
    have hk2 : n + 1 ≤ 1000000 := by omega
    clear hA0 hAN hn hk
    have lb := e4.lt
    have f1 := h.fz 0 (by omega)
    have hsl := slice_hp b n (n + 1) cap (by omega) (by omega)
    rw [Nat.zero_mul] at p0 p1 p2 p3 g0 g1 g2 g3
    have b1 : (((n + 1 : Nat) : Int) == 0) = false := by simp; omega
    have E4 := hid e4
    clear h e4
    go_enter Try.func20, Try.ntmps20
    go_wp2
    first | with_reducible refine wp_region_tail_ext2 12 (by kernel_rfl) (by kernel_rfl) ?_ | refine wp_region_tail_ext 12 (by kernel_rfl) (by kernel_rfl) ?_
    simp only [List.take_succ_cons, List.take_zero, List.drop_succ_cons, List.drop_zero]
    repeat (go_big_quiet_step (fail))
    refine wpQuiet_nil ?_
    rintro _ ⟨z, rfl⟩
    go_wp2_with (go_at_call 72; refine hold ?_)
    unfold Hid
    refine (sinkY_all d b cap n ((L.set 0 AN).take n) _ (by simp; omega) (by simp [go_sem, ↓IntWalk.iteOmega, *]) (by omega) (by rw [List.length_take, List.length_set, HLEN.out]; omega) ?_ ?_ hne).mono ?_
    · refine HX.below (w := World.setCell (World.setCell (World.setCell (World.setCell (World.setCell w _ _) _ _) _ _) _ _) _ _) ?_ (by (repeat (first | with_reducible exact Below.rf _ | with_reducible exact World.below_ext _ _ | with_reducible refine Below.ex ?_ _ | with_reducible refine Below.al ?_ _ | with_reducible refine Below.setCell ?_ (by simp) _ | with_reducible refine Below.drew ?_)))
      refine HX.kept ?_ ((KeptBut.refl d _).set' _ _) hne
      exact (E4.out.put0 (by rw [HLEN.out]; omega) AN).take n
    · have := dn_start HHP.out AN
      rw [List.dropLast_eq_take, List.length_set, HLEN.out] at this
      exact this
    rintro e w5 ⟨rfl, L5, hb5, hpm5, hheap5, hk5⟩
    have HPM5 := hid hpm5
    have HHP5 := hid hheap5
    have hlen5 : L5.length = n := by rw [hpm5.length_eq, List.length_take, List.length_set, HLEN.out]; omega
    have HLEN5 := hid hlen5
    clear hpm5 hheap5 hlen5
    have r0 := hk5.cell (k := w.heap.size + 1) 0 (by simp; omega) (by omega)
    have r1 := hk5.cell (k := w.heap.size + 1) 1 (by simp; omega) (by omega)
    have r2 := hk5.cell (k := w.heap.size + 1) 2 (by simp; omega) (by omega)
    have v0 := hk5.cell (k := w.heap.size) 0 (by simp; omega) (by omega)
    have v1 := hk5.cell (k := w.heap.size) 1 (by simp; omega) (by omega)
    have v2 := hk5.cell (k := w.heap.size) 2 (by simp; omega) (by omega)
    have vf0 := hk5.frozen (k := w.heap.size) 0 (by simp; omega) (by omega)
    have vf1 := hk5.frozen (k := w.heap.size) 1 (by simp; omega) (by omega)
    have vf2 := hk5.frozen (k := w.heap.size) 2 (by simp; omega) (by omega)
    have c0 := hk5.cell (k := d) 7 (by simp; omega) (Ne.symm hne)
    have c1 := hk5.cell (k := d) 0 (by simp; omega) (Ne.symm hne)
    have c2 := hk5.cell (k := d) 1 (by simp; omega) (Ne.symm hne)
    have c3 := hk5.cell (k := d) 8 (by simp; omega) (Ne.symm hne)
    have cf := fun i => hk5.frozen (k := d) i (by simp; omega) (Ne.symm hne)
    simp [go_sem, ↓IntWalk.iteOmega] at r0 r1 r2 v0 v1 v2 vf0 vf1 vf2 c0 c2 c3 cf
    simp [go_sem, ↓IntWalk.iteOmega, h1] at c1
    have hs5 := hk5.size
    simp at hs5
    have hk5' : KeptL lab (fun x => x = 1 ∨ x = 2) w w5 := by
      refine KeptL.trans ?_ (KeptL.of_but hk5 (Or.inr e2))
      (repeat (first | with_reducible exact KeptL.refl _ _ _ | with_reducible refine KeptL.ex ?_ _ | with_reducible refine KeptL.al ?_ _ | with_reducible refine KeptL.drew ?_ | with_reducible refine KeptL.set ?_ (by first | exact Or.inl HH.out.ld | exact Or.inr e2) _))
    have HK5 := hid hk5'
    have C0 := hid (c0.trans HH.out.c0)
    have C1 := hid c1
    have C2 := hid (c2.trans h2)
    have C3 := hid (c3.trans HH.out.c3)
    have CF := hid cf
    have HB5 := hid hb5
    clear hk5 hk5' hb5 c0 c1 c2 c3 cf p0 p1 p2 p3 g0 g1 g2 g3 q0 q1 q2 q3 h1 h2 f1
    go_wp2
    refine bodyPost_ret (v := .tuple #[.agg #[.int .i64 (A0.1), .int .i64 (A0.2.1), .int .i64 (A0.2.2.1)], .bool true]) (by simp [results, Try.results20, go_sem, ↓IntWalk.iteOmega, v0, v1, v2]) rfl ?_
    have hnw : d ≠ w.heap.size := by omega
    have hbw : b ≠ w.heap.size := by omega
    have oth : ∀ i, (((w5.setCell ⟨w.heap.size, 0, none⟩ (.int .i64 (A0.1))).setCell ⟨w.heap.size, 1, none⟩ (.int .i64 (A0.2.1))).setCell ⟨w.heap.size, 2, none⟩ (.int .i64 (A0.2.2.1))).cell? ⟨d, i, none⟩ = w5.cell? ⟨d, i, none⟩ := fun i => by
      have hne2 : ∀ j, (⟨w.heap.size, j, none⟩ : Addr) ≠ ⟨d, i, none⟩ := fun j e => hnw (by have := congrArg Addr.block e; exact this.symm)
      rw [World.cell?_setCell_other _ _ _ _ (hne2 2), World.cell?_setCell_other _ _ _ _ (hne2 1), World.cell?_setCell_other _ _ _ _ (hne2 0)]
    have hpp := pop_perm L (by rw [HLEN.out]; omega)
    rw [List.dropLast_eq_take, List.length_set, HLEN.out, show n + 1 - 1 = n from rfl, HAN.out, HA0.out] at hpp
    refine ⟨L5, nx, ⟨Or.inr ⟨HNE.out, by rw [HA0.out]⟩, rfl, HHP5.out, Or.inr ⟨HNE.out, by rw [HA0.out]; exact (List.Perm.cons A0 HPM5.out).trans hpp⟩⟩, lab, ⟨HH.out.ld, by simp; omega, (oth 7).trans C0.out, (oth 1).trans C2.out, (oth 8).trans C3.out, fun i hi => ?_, _, cap, by rw [HLEN5.out]; exact (oth 0).trans C1.out, by rw [HLEN5.out]; omega, Or.inr ⟨b, rfl, e2, e3, ?_⟩⟩, fun _ _ => rfl, ?_⟩
    · rw [World.frozen?_setCell, World.frozen?_setCell, World.frozen?_setCell, CF.out i]
      exact HH.out.fz i hi
    · repeat (with_reducible refine HX.kept ?_ ((KeptBut.refl _ _).set' _ _) hbw)
      exact HB5.out
    · exact ⟨HK5.out.os, HK5.out.tape, HK5.out.output, by simpa using HK5.out.size, fun j hj hn => by
        rw [Below.heap_setCell _ _ _ _ (by show j ≠ w.heap.size; omega), Below.heap_setCell _ _ _ _ (by show j ≠ w.heap.size; omega), Below.heap_setCell _ _ _ _ (by show j ≠ w.heap.size; omega)]
        exact HK5.out.block j hj hn⟩

structure PY (lab : Nat → Nat) (d : Nat) (tv mv : Value) (g cap nx : Nat) (L2 : List Ent) (w wr : World) : Prop where
  hb : HX wr g cap L2
  lt : d < wr.heap.size
  c0 : wr.cell? ⟨d, 7, none⟩ = none
  c1 : wr.cell? ⟨d, 0, none⟩ = some (.slice (some ⟨g, 0, none⟩) L2.length cap)
  c2 : wr.cell? ⟨d, 1, none⟩ = some (.int .i64 ((nx + 1 : Nat)))
  c3 : wr.cell? ⟨d, 8, none⟩ = none
  fz : ∀ i, i < 4 → wr.frozen? ⟨d, i, none⟩ = false
  kl : KeptL lab (fun x => x = 1 ∨ x = 2) w wr
section
variable {lab : Nat → Nat} {d : Nat} {tv mv : Value} {g cap nx : Nat} {L2 : List Ent} {w wr w' : World}
theorem PY.below (h : PY lab d tv mv g cap nx L2 w wr) (hb : Below wr.heap.size wr w') : PY lab d tv mv g cap nx L2 w w' := by
  have e := hb.block d h.lt
  have ce : ∀ i, w'.cell? ⟨d, i, none⟩ = wr.cell? ⟨d, i, none⟩ := fun i => World.cell?_of_block e
  exact ⟨h.hb.below hb, Nat.lt_of_lt_of_le h.lt hb.size, (ce 7).trans h.c0, (ce 0).trans h.c1, (ce 1).trans h.c2, (ce 8).trans h.c3, fun i hi => (World.frozen?_of_block e).trans (h.fz i hi), h.kl.trans (KeptL.of_below hb)⟩
theorem PY.put (h : PY lab d tv mv g cap nx L2 w wr) (hgd : g ≠ d) (hgl : g < w.heap.size → lab g = 2) {i : Nat} (hi : i < L2.length) (e : Ent) : PY lab d tv mv g cap nx (L2.set i e) w ((((wr.setCell ⟨g, i * 4, none⟩ (.int .i64 (e.1))).setCell ⟨g, i * 4 + 1, none⟩ (.int .i64 (e.2.1))).setCell ⟨g, i * 4 + 2, none⟩ (.int .i64 (e.2.2.1))).setCell ⟨g, i * 4 + 3, none⟩ (.int .i64 (e.2.2.2))) := by
  have kb : KeptBut g wr ((((wr.setCell ⟨g, i * 4, none⟩ (.int .i64 (e.1))).setCell ⟨g, i * 4 + 1, none⟩ (.int .i64 (e.2.1))).setCell ⟨g, i * 4 + 2, none⟩ (.int .i64 (e.2.2.1))).setCell ⟨g, i * 4 + 3, none⟩ (.int .i64 (e.2.2.2))) := ((((KeptBut.refl g wr).set' _ _).set' _ _).set' _ _).set' _ _
  refine ⟨h.hb.put hi e, Nat.lt_of_lt_of_le h.lt kb.size, (kb.cell 7 h.lt (Ne.symm hgd)).trans h.c0, by rw [List.length_set]; exact (kb.cell 0 h.lt (Ne.symm hgd)).trans h.c1, (kb.cell 1 h.lt (Ne.symm hgd)).trans h.c2, (kb.cell 8 h.lt (Ne.symm hgd)).trans h.c3, fun j hj => (kb.frozen j h.lt (Ne.symm hgd)).trans (h.fz j hj), ?_⟩
  refine ⟨by rw [kb.os]; exact h.kl.os, by rw [kb.tape]; exact h.kl.tape, by rw [kb.output]; exact h.kl.output, Nat.le_trans h.kl.size kb.size, fun j hj hn => ?_⟩
  rw [kb.block j (by have := h.kl.size; omega) (fun e2 => hn (by rw [e2, hgl (by omega)]; exact Or.inr rfl))]
  exact h.kl.block j hj hn
theorem PY.done (h : PY lab d tv mv g cap nx L2 w wr) (hgd : g ≠ d) (hgl : g < w.heap.size → lab g = 2) (hd : lab d = 1) {L : List Ent} {e : Ent} (hpm : L2.Perm (L ++ [e])) (hh : isHeap L2) : hpYPost lab d tv mv (pushX L e nx) w (.returned (.tuple #[])) wr := by
  have hle := h.hb.le
  have hpos : 0 < L2.length := by rw [hpm.length_eq]; simp
  refine ⟨L2, nx + 1, ⟨rfl, rfl, hh, hpm⟩, upd lab g 2, ⟨?_, h.lt, h.c0, h.c2, h.c3, h.fz, _, cap, h.c1, hle, Or.inr ⟨g, rfl, upd_at _ _ _, by omega, h.hb⟩⟩, fun j hj => ?_, h.kl⟩
  · rw [upd_ne _ _ (Ne.symm hgd)]; exact hd
  · by_cases hjg : j = g
    · subst hjg
      rw [upd_at, hgl hj]
    · rw [upd_ne _ _ hjg]
end
set_option maxRecDepth 20000 in
set_option maxHeartbeats 4000000 in
theorem hpushY (d : Nat) (lab : Nat → Nat) (tv mv : Value) (L : List Ent) (nx : Nat) (x y z : Int) (w : World) (h : DY w lab d tv mv L nx) (hk : L.length ≤ 900000) (hk2 : nx ≤ 900000) (hheap : isHeap L) : Calls Try.prog 18 #[.pointer (some ⟨d, 0, none⟩), .agg #[.int .i64 (x), .int .i64 (y), .int .i64 (z)]] w (hpYPost lab d tv mv (pushX L (x, y, z, (nx : Int)) nx) w) := by
  have HH := hid h
  obtain ⟨ao, cap, h1, h5, h6⟩ := h.hp
  have h2 := h.c2
  have HUP := hid (up_start hheap (x, y, z, (nx : Int)))
  clear hheap
  have l1 := h.lt
  have f1 := h.fz 0 (by omega)
  have f2 := h.fz 1 (by omega)
  obtain ⟨bb, hbb, hbd, hbw⟩ : ∃ bb, (((ao = none ∧ cap = 0) ∧ w.heap.size < bb) ∨ (ao = some ⟨bb, 0, none⟩ ∧ HX w bb cap L ∧ lab bb = 2)) ∧ bb ≠ d ∧ bb ≠ w.heap.size := by
    rcases h6 with h6 | ⟨b, e1, e2, e3, e4⟩
    · exact ⟨w.heap.size + 1, Or.inl ⟨h6, by omega⟩, by omega, by omega⟩
    · exact ⟨b, Or.inr ⟨e1, e4, e2⟩, fun e => by have := h.ld; rw [← e, e2] at this; omega, by have := e4.lt; omega⟩
  have HBB := hid hbb
  clear h h6 hbb
  go_enter Try.func18, Try.ntmps18
  go_wp2
  refine wp_region_tree 15 (fun w' => w'.cell? ⟨d, 0, none⟩ = some (.slice ao L.length cap) ∧ w'.cell? ⟨d, 1, none⟩ = some (.int .i64 (nx)) ∧ w'.cell? ⟨w.heap.size, 0, none⟩ = some (.int .i64 (x)) ∧ w'.cell? ⟨w.heap.size, 1, none⟩ = some (.int .i64 (y)) ∧ w'.cell? ⟨w.heap.size, 2, none⟩ = some (.int .i64 (z))) (.q 0 false (.q 1 false (.q 2 false (.q 3 false (.q 4 true (.q 5 true (.q 6 false (.q 7 false (.q 8 false (.q 9 true (.q 10 false (.one 11 true (.one 12 true (.one 13 true (.one 14 true (.one 15 false (.nil))))))))))))))))) (by kernel_rfl) (by kernel_rfl) (by kernel_rfl) ?_ ?_
  · simp [go_sem, ↓IntWalk.iteOmega, *]
  repeat (first | (refine wpTr_qf (v := ?_) rfl rfl ?_ ?_; rotate_left; focus (intro w; go_simp; (try (with_reducible rfl)); done); try simp only [List.getElem_toArray, List.getElem_cons_zero, List.getElem_cons_succ, Act.put, List.setIfInBounds_toArray, List.set_cons_zero, List.set_cons_succ]) | (refine wpTr_qt (v := ?_) rfl rfl ?_ ?_; rotate_left; focus (intro w hSw; (try dsimp only at hSw); go_simp; (try (with_reducible rfl)); done); try simp only [List.getElem_toArray, List.getElem_cons_zero, List.getElem_cons_succ, Act.put, List.setIfInBounds_toArray, List.set_cons_zero, List.set_cons_succ]))
  refine wpTr_one rfl rfl (fun K hK => ?_)
  go_simp
  refine hK.out _ _ (fun _ => by simp [go_sem, ↓IntWalk.iteOmega, *]) ?_
  clear hK K
  refine wpTr_one rfl rfl (fun K hK => ?_)
  refine wp_hpX rfl _ _ rfl ao L L.length cap bb rfl rfl (by omega) h5 (by rcases HBB.out with h | h; exact Or.inl h.1; exact Or.inr ⟨h.1, h.2.1.below (by (repeat (first | with_reducible exact Below.rf _ | with_reducible exact World.below_ext _ _ | with_reducible refine Below.ex ?_ _ | with_reducible refine Below.al ?_ _ | with_reducible refine Below.setCell ?_ (by simp) _ | with_reducible refine Below.drew ?_)))⟩) _ x y z nx rfl (by simp [go_sem, ↓IntWalk.iteOmega]) (by simp [go_sem, ↓IntWalk.iteOmega]) (by simp [go_sem, ↓IntWalk.iteOmega]) (by simp [go_sem, ↓IntWalk.iteOmega]) ?_
  intro g cap' w3 hg hb3 hk3
  have r0 := hk3.cell (k := w.heap.size) 0 (by simp; omega) (Ne.symm hbw)
  have r1 := hk3.cell (k := w.heap.size) 1 (by simp; omega) (Ne.symm hbw)
  have r2 := hk3.cell (k := w.heap.size) 2 (by simp; omega) (Ne.symm hbw)
  have c0 := hk3.cell (k := d) 7 (by simp; omega) (Ne.symm hbd)
  have c1 := hk3.cell (k := d) 0 (by simp; omega) (Ne.symm hbd)
  have c2 := hk3.cell (k := d) 1 (by simp; omega) (Ne.symm hbd)
  have c3 := hk3.cell (k := d) 8 (by simp; omega) (Ne.symm hbd)
  have cf1 := hk3.frozen (k := d) 0 (by simp; omega) (Ne.symm hbd)
  have cf2 := hk3.frozen (k := d) 1 (by simp; omega) (Ne.symm hbd)
  have cf := fun i => hk3.frozen (k := d) i (by simp; omega) (Ne.symm hbd)
  simp [go_sem, ↓IntWalk.iteOmega] at r0 r1 r2 c0 c1 c2 c3 cf cf1 cf2
  have hs3 := hk3.size
  simp at hs3
  refine hK.out _ _ (fun _ => by simp [go_sem, ↓IntWalk.iteOmega, *]) ?_
  clear hK K
  have hgl : g = bb ∧ lab bb = 2 ∨ w.heap.size ≤ g := by
    rcases hg with ⟨h1, h2⟩ | h1
    · rcases HBB.out with ⟨⟨h3, -⟩, -⟩ | ⟨-, -, h3⟩
      · rw [h3] at h2; cases h2
      · exact Or.inl ⟨h1, h3⟩
    · simp at h1; exact Or.inr (by omega)
  have hgd : g ≠ d := by rcases hgl with ⟨h1, -⟩ | h1 <;> omega
  have hkl : KeptL lab (fun x => x = 1 ∨ x = 2) w w3 := by
    refine ⟨hk3.os, hk3.tape, hk3.output, by omega, fun j hj hn => (hk3.block j (by simp; omega) (fun e => ?_)).trans ?_⟩
    · rcases HBB.out with ⟨-, h3⟩ | ⟨-, -, h3⟩
      · omega
      · exact hn (by rw [e, h3]; exact Or.inr rfl)
    · refine Below.block (B := w.heap.size) (w := w) ?_ j hj
      (repeat (first | with_reducible exact Below.rf _ | with_reducible exact World.below_ext _ _ | with_reducible refine Below.ex ?_ _ | with_reducible refine Below.al ?_ _ | with_reducible refine Below.setCell ?_ (by simp) _ | with_reducible refine Below.drew ?_))
  have HKL := hid hkl
  have HB3 := hid hb3
  have C0 := hid (c0.trans HH.out.c0)
  have C3 := hid (c3.trans HH.out.c3)
  have CF := hid (fun i (hi : i < 4) => (cf i).trans (HH.out.fz i hi))
  have HGL2 := hid (show g < w.heap.size → lab g = 2 from fun hlt => by rcases hgl with ⟨h1, h2⟩ | h1; rw [h1]; exact h2; omega)
  clear hk3 hkl hb3 c0 c3 cf hg hgl
  refine wpTr_one rfl rfl (fun K hK => ?_)
  go_simp
  refine hK.out _ _ (fun _ => by simp [go_sem, ↓IntWalk.iteOmega, *]) ?_
  clear hK K
  refine wpTr_one rfl rfl (fun K hK => ?_)
  go_simp
  refine hK.out _ _ (fun _ => by simp [go_sem, ↓IntWalk.iteOmega, *]) ?_
  clear hK K
  refine wpTr_one rfl rfl (fun K hK => ?_)
  go_simp
  refine hK.out _ _ (fun h => by cases h) ?_
  clear hK K
  refine wpTr_nil ?_
  refine NoPanic.normal ?_
  go_wp2
  go_loopw [4] (fun x' wr => ∃ (i : Nat) (L2 : List Ent), x' = .int .i64 (i) ∧ i < L.length + 1 ∧ L2.length = L.length + 1 ∧ L2.Perm (L ++ [(x, y, z, (nx : Int))]) ∧ upAt L2 i ∧ PY lab d tv mv g cap' nx L2 w wr) (fun x _ => (intOf x).toNat)
  case atStart =>
    refine ⟨L.length, L ++ [(x, y, z, (nx : Int))], by go_num, by omega, by simp, List.Perm.refl _, HUP.out, ?_, by simp; omega, by simp [go_sem, ↓IntWalk.iteOmega]; exact C0.out, by rw [List.length_append]; simp [go_sem, ↓IntWalk.iteOmega, *], by simp [go_sem, ↓IntWalk.iteOmega, *], by simp [go_sem, ↓IntWalk.iteOmega]; exact C3.out, fun i hi => by rw [World.frozen?_setCell, World.frozen?_setCell]; exact CF.out i hi, ?_⟩
    · repeat (with_reducible refine HX.kept ?_ ((KeptBut.refl _ _).set' _ _) hgd)
      exact HB3.out
    · exact (HKL.out.set (Or.inl HH.out.ld) _).set (Or.inl HH.out.ld) _
  case round =>
    clear c1 c2 cf1 cf2 r0 r1 r2 h1 h2 f1 f2
    obtain ⟨i, L2, rfl, hi, hln, hpm, hup, hP⟩ := hrel
    have HLN := hid hln
    have HPM := hid hpm
    have HUA := hid hup
    clear hpm hup
    have HP := hid hP
    have d2 := hP.lt
    have e2 := hP.c1
    rw [hln] at e2
    have lb := hP.hb.lt
    by_cases hz : 0 < i
    · obtain ⟨l, hl⟩ : ∃ l, (i - 1) / 2 = l := ⟨_, rfl⟩
      have hli : l < i := by omega
      have hl2 : l < L.length + 1 := by omega
      have hl3 : (l : Int) < (L.length : Int) + 1 := by omega
      have hi3 : (i : Int) < (L.length : Int) + 1 := by omega
      have HLL := hid hl
      have hq : Int.tdiv ((i : Int) - 1) 2 = l := by rw [Int.tdiv_eq_ediv_of_nonneg (by omega)]; omega
      obtain ⟨p0, p1, p2, p3, f0, f1, f2, f3⟩ := hP.hb.at (i := i) (by omega)
      obtain ⟨q0, q1, q2, q3, g0, g1, g2, g3⟩ := hP.hb.at (i := l) (by omega)
      have HBF := hid (bef_lt (at0 L2 i) (at0 L2 l))
      clear hP hl hln
      go_wp2
      first | with_reducible refine wp_region_ext2 (by kernel_rfl) (by kernel_rfl) ?_ | refine wp_region_ext (by kernel_rfl) (by kernel_rfl) ?_
      repeat (go_big_quiet_step ((go_at_call 71; exact Calls.ext_of (before_any _ _ _ _ _ _ _ _ _))))
      refine wpQuiet_nil ?_
      rintro w2 ⟨z, hw2⟩
      generalize hr : bef (at0 L2 i).1 (at0 L2 i).2.1 (at0 L2 i).2.2.2 (at0 L2 l).1 (at0 L2 l).2.1 (at0 L2 l).2.2.2 = r
      have HR := hid hr
      clear hr
      have hP2 : PY lab d tv mv g cap' nx L2 w w2 := by rw [hw2]; exact HP.out.below (by (repeat (first | with_reducible exact Below.rf _ | with_reducible exact World.below_ext _ _ | with_reducible refine Below.ex ?_ _ | with_reducible refine Below.al ?_ _ | with_reducible refine Below.setCell ?_ (by simp) _ | with_reducible refine Below.drew ?_)))
      have HP2 := hid hP2
      clear p0 p1 p2 p3 f0 f1 f2 f3 q0 q1 q2 q3 g0 g1 g2 g3 d2 e2 lb hw2
      have d2 := hP2.lt
      have e2 := hP2.c1
      rw [HLN.out] at e2
      have lb := hP2.hb.lt
      obtain ⟨p0, p1, p2, p3, f0, f1, f2, f3⟩ := hP2.hb.at (i := i) (by rw [HLN.out]; exact hi)
      obtain ⟨q0, q1, q2, q3, g0, g1, g2, g3⟩ := hP2.hb.at (i := l) (by rw [HLN.out]; exact hl2)
      clear hP2
      cases r with
      | false =>
        go_wp2
        refine bodyPost_end (v := .tuple #[]) (by simp [results, Try.results18]) rfl ?_
        exact HP2.out.done hgd HGL2.out HH.out.ld HPM.out (up_done HUA.out (by rw [HLL.out]; exact fun h => by have := HBF.out.2 h; rw [HR.out] at this; cases this))
      | true =>
        have HST := hid (up_step HUA.out hz (show i < L2.length by rw [HLN.out]; exact hi) (by rw [HLL.out]; exact HBF.out.1 HR.out))
        rw [HLL.out] at HST
        go_wp2
        refine wp_region_tree 25 (fun w' => w'.cell? ⟨d, 0, none⟩ = some (.slice (some ⟨g, 0, none⟩) (L.length + 1) cap') ∧ w'.cell? ⟨g, i * 4, none⟩ = some (.int .i64 ((at0 L2 i).1)) ∧ w'.cell? ⟨g, i * 4 + 1, none⟩ = some (.int .i64 ((at0 L2 i).2.1)) ∧ w'.cell? ⟨g, i * 4 + 2, none⟩ = some (.int .i64 ((at0 L2 i).2.2.1)) ∧ w'.cell? ⟨g, i * 4 + 3, none⟩ = some (.int .i64 ((at0 L2 i).2.2.2)) ∧ w'.cell? ⟨g, l * 4, none⟩ = some (.int .i64 ((at0 L2 l).1)) ∧ w'.cell? ⟨g, l * 4 + 1, none⟩ = some (.int .i64 ((at0 L2 l).2.1)) ∧ w'.cell? ⟨g, l * 4 + 2, none⟩ = some (.int .i64 ((at0 L2 l).2.2.1)) ∧ w'.cell? ⟨g, l * 4 + 3, none⟩ = some (.int .i64 ((at0 L2 l).2.2.2))) (.q 0 false (.q 1 false (.q 2 false (.q 3 true (.q 4 false (.q 5 false (.q 6 false (.q 7 false (.q 8 true (.q 9 false (.q 10 false (.q 11 false (.q 12 false (.q 13 true (.q 14 false (.q 15 false (.q 16 true (.q 17 false (.q 18 false (.q 19 false (.q 20 true (.q 21 false (.q 22 false (.q 23 true (.one 24 true (.one 25 false (.one 26 false (.one 27 false (.nil))))))))))))))))))))))))))))) (by kernel_rfl) (by kernel_rfl) (by kernel_rfl) ?_ ?_
        · simp [go_sem, ↓IntWalk.iteOmega, *]
        repeat (first | (refine wpTr_qf (v := ?_) rfl rfl ?_ ?_; rotate_left; focus (intro w; go_simp; (try (with_reducible rfl)); done); try simp only [List.getElem_toArray, List.getElem_cons_zero, List.getElem_cons_succ, Act.put, List.setIfInBounds_toArray, List.set_cons_zero, List.set_cons_succ]) | (refine wpTr_qt (v := ?_) rfl rfl ?_ ?_; rotate_left; focus (intro w hSw; (try dsimp only at hSw); go_simp; (try (with_reducible rfl)); done); try simp only [List.getElem_toArray, List.getElem_cons_zero, List.getElem_cons_succ, Act.put, List.setIfInBounds_toArray, List.set_cons_zero, List.set_cons_succ]))
        refine wpTr_one rfl rfl (fun K hK => ?_)
        go_simp
        refine hK.out _ _ (fun _ => by simp [go_sem, ↓IntWalk.iteOmega, *]) ?_
        clear hK K
        refine wpTr_one rfl rfl (fun K hK => ?_)
        go_simp
        refine hK.out _ _ (fun h => by cases h) ?_
        clear hK K
        generalize hW : World.drew (World.setCell (World.setCell (World.setCell (World.setCell w2 _ _) _ _) _ _) _ _) = w5
        have hP5 : PY lab d tv mv g cap' nx (L2.set i (at0 L2 l)) w w5 := by rw [← hW]; exact (HP2.out.put hgd HGL2.out (by rw [HLN.out]; exact hi) (at0 L2 l)).below (Below.rf _).drew
        have HP5 := hid hP5
        have lb5 := hP5.hb.lt
        obtain ⟨s0, s1, s2, s3, t0, t1, t2, t3⟩ := hP5.hb.at (i := l) (by rw [List.length_set, HLN.out]; exact hl2)
        clear hW hP5 p0 p1 p2 p3 q0 q1 q2 q3 f0 f1 f2 f3 g0 g1 g2 g3 lb d2 e2
        refine wpTr_one rfl rfl (fun K hK => ?_)
        go_simp
        refine hK.out _ _ (fun h => by cases h) ?_
        clear hK K
        refine wpTr_one rfl rfl (fun K hK => ?_)
        go_simp
        refine hK.out _ _ (fun h => by cases h) ?_
        clear hK K
        refine wpTr_nil ?_
        refine NoPanic.normal ?_
        go_wp2
        go_roundw
        case rel => exact ⟨l, swp L2 i l, rfl, hl2, by rw [swp_len]; exact HLN.out, (swp_perm L2 i l (by rw [HLN.out]; exact hi) (by rw [HLN.out]; exact hl2)).trans HPM.out, HST.out, HP5.out.put hgd HGL2.out (by rw [List.length_set, HLN.out]; exact hl2) (at0 L2 i)⟩
        case measure => simp [intOf]; omega
    · obtain rfl : i = 0 := by omega
      clear hP
      go_wp2
      refine bodyPost_end (v := .tuple #[]) (by simp [results, Try.results18]) rfl ?_
      exact HP.out.done hgd HGL2.out HH.out.ld HPM.out (up_done0 HUA.out)
end Go.Proofs.Qxb6500717a
