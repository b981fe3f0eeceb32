/-
  Pop, exactly.
-/
import Derived.Test.Qxb6500717aGreatHx2
namespace Go.Proofs.Qxb6500717aGreat
open Go.RowKit
set_option linter.unusedSimpArgs false
set_option linter.unusedVariables false

theorem HX.put0 {w : World} {b cap : Nat} {L : List Ent} (h : HX w b cap L) (hi : 0 < L.length) (e : Ent) : HX ((((w.setCell ⟨b, 0, none⟩ (.int .i64 (e.1))).setCell ⟨b, 1, none⟩ (.int .i64 (e.2.1))).setCell ⟨b, 2, none⟩ (.int .i64 (e.2.2.1))).setCell ⟨b, 3, none⟩ (.int .i64 (e.2.2.2))) b cap (L.set 0 e) := by
  have := h.put hi e
  simpa using this
theorem sinkX_all (d b cap n : Nat) (L : List Ent) (w : World) (hd : d < w.heap.size) (c1 : w.cell? ⟨d, 1, none⟩ = some (.slice (some ⟨b, 0, none⟩) n cap)) (hn : n ≤ 1000000) (hL : L.length = n) (hb : HX w b cap L) (hdn : dnAt L 0) (hne : b ≠ d) :
    Calls Tryz.prog 65 #[.pointer (some ⟨d, 1, none⟩), .int .i64 (0)] w (sinkXPost b cap L w) := by
  cases n with
  | zero =>
    have hnil : L = [] := List.length_eq_zero_iff.1 hL
    refine (sink_nil d _ cap w hd c1).mono (fun e w' h => ⟨h.1, L, by rw [h.2]; exact hb, List.Perm.refl _, ?_, by rw [h.2]; exact KeptBut.refl b w⟩)
    intro i _ hi
    omega
  | succ n => exact sinkX_any d b cap (n + 1) L w hd c1 (by omega) hL hb hdn hne

def popX (L : List Ent) (nx : Nat) (e : Ending) (L' : List Ent) (nx' : Nat) : Prop := headE L e ∧ nx' = nx ∧ isHeap L' ∧ ((L = [] ∧ L' = []) ∨ (L ≠ [] ∧ (at0 L 0 :: L').Perm L))
set_option maxRecDepth 20000 in
set_option maxHeartbeats 4000000 in
theorem hpopX (d : Nat) (lab : Nat → Nat) (tv mv : Value) (L : List Ent) (nx : Nat) (w : World) (h : DX w lab d tv mv L nx) (hk : L.length ≤ 1000000) (hheap : isHeap L) : Calls Tryz.prog 17 #[.pointer (some ⟨d, 1, none⟩)] w (hpXPost lab d tv mv (popX L nx) w) := by
  have HH := hid h
  obtain ⟨ao, cap, h1, h5, h6⟩ := h.hp
  have l1 := h.lt
  have h2 := h.c2
  have HHP := hid hheap
  clear hheap
  cases hL : L with
  | nil =>
    subst hL
    clear h h6
    go_enter Tryz.func17, Tryz.ntmps17
    go_wp2
    refine bodyPost_ret (v := .tuple #[.agg #[.int .i64 (0), .int .i64 (0), .int .i64 (0)], .bool false]) (by simp [results, Tryz.results17, go_sem, ↓IntWalk.iteOmega]) rfl ?_
    refine ⟨[], nx, ⟨Or.inl ⟨rfl, rfl⟩, rfl, HHP.out, Or.inl ⟨rfl, rfl⟩⟩, lab, HH.out.below ?_, fun _ _ => rfl, KeptL.of_below ?_⟩
    · (repeat (first | with_reducible exact Below.rf _ | with_reducible exact World.below_ext _ _ | with_reducible refine Below.ex ?_ _ | with_reducible refine Below.al ?_ _ | with_reducible refine Below.setCell ?_ (by simp) _ | with_reducible refine Below.drew ?_))
    · (repeat (first | with_reducible exact Below.rf _ | with_reducible exact World.below_ext _ _ | with_reducible refine Below.ex ?_ _ | with_reducible refine Below.al ?_ _ | with_reducible refine Below.setCell ?_ (by simp) _ | with_reducible refine Below.drew ?_))
  | cons a L0 =>
    rw [← hL]
    obtain ⟨n, hn⟩ : ∃ n, L.length = n + 1 := ⟨L0.length, by rw [hL]; rfl⟩
    have HNE := hid (show L ≠ [] by rw [hL]; simp)
    have HLEN := hid hn
    clear hL
    rw [hn] at h1 h5
    rcases h6 with ⟨rfl, rfl⟩ | ⟨b, rfl, e2, e3, e4⟩
    · omega
    have hne : b ≠ d := fun e => by have := HH.out.ld; rw [← e, e2] at this; omega
    obtain ⟨p0, p1, p2, p3, g0, g1, g2, g3⟩ := e4.at (i := 0) (by omega)
    obtain ⟨q0, q1, q2, q3, -⟩ := e4.at (i := n) (by omega)
    obtain ⟨A0, hA0⟩ : ∃ x, at0 L 0 = x := ⟨_, rfl⟩
    obtain ⟨AN, hAN⟩ : ∃ x, at0 L n = x := ⟨_, rfl⟩
    rw [hA0] at p0 p1 p2 p3
    rw [hAN] at q0 q1 q2 q3
    have HA0 := hid hA0
    have HAN := hid hAN
    have hk2 : n + 1 ≤ 1000000 := by omega
    clear hA0 hAN hn hk
    have lb := e4.lt
    have f1 := h.fz 1 (by omega)
    have hsl := slice_hp b n (n + 1) cap (by omega) (by omega)
    rw [Nat.zero_mul] at p0 p1 p2 p3 g0 g1 g2 g3
    have b1 : (((n + 1 : Nat) : Int) == 0) = false := by simp; omega
    have E4 := hid e4
    clear h e4
    go_enter Tryz.func17, Tryz.ntmps17
    go_wp2
    first | with_reducible refine wp_region_tail_ext2 12 (by kernel_rfl) (by kernel_rfl) ?_ | refine wp_region_tail_ext 12 (by kernel_rfl) (by kernel_rfl) ?_
    simp only [List.take_succ_cons, List.take_zero, List.drop_succ_cons, List.drop_zero]
    repeat (go_big_quiet_step (fail))
    refine wpQuiet_nil ?_
    rintro _ ⟨z, rfl⟩
    go_wp2_with (go_at_call 65; refine hold ?_)
    unfold Hid
    refine (sinkX_all d b cap n ((L.set 0 AN).take n) _ (by simp; omega) (by simp [go_sem, ↓IntWalk.iteOmega, *]) (by omega) (by rw [List.length_take, List.length_set, HLEN.out]; omega) ?_ ?_ hne).mono ?_
    · refine HX.below (w := World.setCell (World.setCell (World.setCell (World.setCell (World.setCell w _ _) _ _) _ _) _ _) _ _) ?_ (by (repeat (first | with_reducible exact Below.rf _ | with_reducible exact World.below_ext _ _ | with_reducible refine Below.ex ?_ _ | with_reducible refine Below.al ?_ _ | with_reducible refine Below.setCell ?_ (by simp) _ | with_reducible refine Below.drew ?_)))
      refine HX.kept ?_ ((KeptBut.refl d _).set' _ _) hne
      exact (E4.out.put0 (by rw [HLEN.out]; omega) AN).take n
    · have := dn_start HHP.out AN
      rw [List.dropLast_eq_take, List.length_set, HLEN.out] at this
      exact this
    rintro e w5 ⟨rfl, L5, hb5, hpm5, hheap5, hk5⟩
    have HPM5 := hid hpm5
    have HHP5 := hid hheap5
    have hlen5 : L5.length = n := by rw [hpm5.length_eq, List.length_take, List.length_set, HLEN.out]; omega
    have HLEN5 := hid hlen5
    clear hpm5 hheap5 hlen5
    have r0 := hk5.cell (k := w.heap.size + 1) 0 (by simp; omega) (by omega)
    have r1 := hk5.cell (k := w.heap.size + 1) 1 (by simp; omega) (by omega)
    have r2 := hk5.cell (k := w.heap.size + 1) 2 (by simp; omega) (by omega)
    have v0 := hk5.cell (k := w.heap.size) 0 (by simp; omega) (by omega)
    have v1 := hk5.cell (k := w.heap.size) 1 (by simp; omega) (by omega)
    have v2 := hk5.cell (k := w.heap.size) 2 (by simp; omega) (by omega)
    have vf0 := hk5.frozen (k := w.heap.size) 0 (by simp; omega) (by omega)
    have vf1 := hk5.frozen (k := w.heap.size) 1 (by simp; omega) (by omega)
    have vf2 := hk5.frozen (k := w.heap.size) 2 (by simp; omega) (by omega)
    have c0 := hk5.cell (k := d) 0 (by simp; omega) (Ne.symm hne)
    have c1 := hk5.cell (k := d) 1 (by simp; omega) (Ne.symm hne)
    have c2 := hk5.cell (k := d) 2 (by simp; omega) (Ne.symm hne)
    have c3 := hk5.cell (k := d) 3 (by simp; omega) (Ne.symm hne)
    have cf := fun i => hk5.frozen (k := d) i (by simp; omega) (Ne.symm hne)
    simp [go_sem, ↓IntWalk.iteOmega] at r0 r1 r2 v0 v1 v2 vf0 vf1 vf2 c0 c2 c3 cf
    simp [go_sem, ↓IntWalk.iteOmega, h1] at c1
    have hs5 := hk5.size
    simp at hs5
    have hk5' : KeptL lab (fun x => x = 1 ∨ x = 2) w w5 := by
      refine KeptL.trans ?_ (KeptL.of_but hk5 (Or.inr e2))
      (repeat (first | with_reducible exact KeptL.refl _ _ _ | with_reducible refine KeptL.ex ?_ _ | with_reducible refine KeptL.al ?_ _ | with_reducible refine KeptL.drew ?_ | with_reducible refine KeptL.set ?_ (by first | exact Or.inl HH.out.ld | exact Or.inr e2) _))
    have HK5 := hid hk5'
    have C0 := hid (c0.trans HH.out.c0)
    have C1 := hid c1
    have C2 := hid (c2.trans h2)
    have C3 := hid (c3.trans HH.out.c3)
    have CF := hid cf
    have HB5 := hid hb5
    clear hk5 hk5' hb5 c0 c1 c2 c3 cf p0 p1 p2 p3 g0 g1 g2 g3 q0 q1 q2 q3 h1 h2 f1
    go_wp2
    refine bodyPost_ret (v := .tuple #[.agg #[.int .i64 (A0.1), .int .i64 (A0.2.1), .int .i64 (A0.2.2.1)], .bool true]) (by simp [results, Tryz.results17, go_sem, ↓IntWalk.iteOmega, v0, v1, v2]) rfl ?_
    have hnw : d ≠ w.heap.size := by omega
    have hbw : b ≠ w.heap.size := by omega
    have oth : ∀ i, (((w5.setCell ⟨w.heap.size, 0, none⟩ (.int .i64 (A0.1))).setCell ⟨w.heap.size, 1, none⟩ (.int .i64 (A0.2.1))).setCell ⟨w.heap.size, 2, none⟩ (.int .i64 (A0.2.2.1))).cell? ⟨d, i, none⟩ = w5.cell? ⟨d, i, none⟩ := fun i => by
      have hne2 : ∀ j, (⟨w.heap.size, j, none⟩ : Addr) ≠ ⟨d, i, none⟩ := fun j e => hnw (by have := congrArg Addr.block e; exact this.symm)
      rw [World.cell?_setCell_other _ _ _ _ (hne2 2), World.cell?_setCell_other _ _ _ _ (hne2 1), World.cell?_setCell_other _ _ _ _ (hne2 0)]
    have hpp := pop_perm L (by rw [HLEN.out]; omega)
    rw [List.dropLast_eq_take, List.length_set, HLEN.out, show n + 1 - 1 = n from rfl, HAN.out, HA0.out] at hpp
    refine ⟨L5, nx, ⟨Or.inr ⟨HNE.out, by rw [HA0.out]⟩, rfl, HHP5.out, Or.inr ⟨HNE.out, by rw [HA0.out]; exact (List.Perm.cons A0 HPM5.out).trans hpp⟩⟩, lab, ⟨HH.out.ld, by simp; omega, (oth 0).trans C0.out, (oth 2).trans C2.out, (oth 3).trans C3.out, fun i hi => ?_, _, cap, by rw [HLEN5.out]; exact (oth 1).trans C1.out, by rw [HLEN5.out]; omega, Or.inr ⟨b, rfl, e2, e3, ?_⟩⟩, fun _ _ => rfl, ?_⟩
    · rw [World.frozen?_setCell, World.frozen?_setCell, World.frozen?_setCell, CF.out i]
      exact HH.out.fz i hi
    · repeat (with_reducible refine HX.kept ?_ ((KeptBut.refl _ _).set' _ _) hbw)
      exact HB5.out
    · exact ⟨HK5.out.os, HK5.out.tape, HK5.out.output, by simpa using HK5.out.size, fun j hj hn => by
        rw [Below.heap_setCell _ _ _ _ (by show j ≠ w.heap.size; omega), Below.heap_setCell _ _ _ _ (by show j ≠ w.heap.size; omega), Below.heap_setCell _ _ _ _ (by show j ≠ w.heap.size; omega)]
        exact HK5.out.block j hj hn⟩

end Go.Proofs.Qxb6500717aGreat
