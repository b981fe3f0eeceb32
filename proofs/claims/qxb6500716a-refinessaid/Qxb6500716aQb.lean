/-
  Estimate: the walk.
-/
import Derived.Test.Qxb6500716aQa
namespace Go.Proofs.Qxb6500716a
open Go.RowKit Go.Maps
set_option linter.unusedSimpArgs false
set_option linter.unusedVariables false
set_option maxRecDepth 20000
set_option maxHeartbeats 4000000

/-- What 'Estimate' answers. -/
def estimPost (fb : Nat) (F : FS) (r : Int) (gl : List (Int × Int)) (w : World) (e : Ending) (w' : World) : Prop :=
  Below w.heap.size w w' ∧ if (F.park r).2 = false then e = .returned (.tuple #[.agg #[.pointer none, .slice none 0 0, .slice none 0 0], .int .u8 2])
    else if F.gcode gl ≠ 0 then e = .returned (.tuple #[.agg #[.pointer none, .slice none 0 0, .slice none 0 0], .int .u8 (F.gcode gl)])
    else ∃ tv av, e = .returned (.tuple #[.agg #[.pointer (some ⟨fb, 0, none⟩), tv, av], .int .u8 0]) ∧ ∀ lab : Nat → Nat, (∀ k, w.heap.size ≤ k → lab k = 0) → Ints w' lab tv (etl (F.park r).1 gl) ∧ Ints w' lab av (eal F (F.park r).1 gl)
theorem calls_nm {P : Program} {f : FuncId} {args : Array Value} {W : World} {post : Ending → World → Prop} (h : ∀ w', w' = W → Calls P f args w' post) : Calls P f args W post := h W rfl
theorem estim_any (N : PM) (S : PS) (n fb tb : Nat) (F : FS) (lab : Nat → Nat) (r : Int) (gv : Value) (gl : List (Int × Int)) (w : World) (hF : FAt w lab fb F) (hP : PAt w lab N fb tb S n) (hg : GAt w lab gv gl) :
    Calls Try.prog 27 #[.pointer (some ⟨N.p, 0, none⟩), .int .i64 (r), gv] w (estimPost fb F r gl w) := by
  have c0 := hP.c0
  have hpl := hP.bp.lt
  have PK := hid (fun (w' : World) (h : Below w.heap.size w w') => parking_any fb F lab r w' (hF.below h))
  have CG := hid (fun (w' : World) (h : Below w.heap.size w w') => checkGoals_any N.p fb F lab gv gl w' (hF.below h) (by rw [World.cell?_of_block (h.block N.p hpl)]; exact c0) (Nat.lt_of_lt_of_le hpl h.size) (hg.below h))
  obtain ⟨go, gc, hgv, -⟩ := hg.ex
  subst hgv
  cases hpk : (F.park r).2 with
  | false =>
    have HE : Hid (∀ e w', Below w.heap.size w w' → e = .returned (.tuple #[.agg #[.pointer none, .slice none 0 0, .slice none 0 0], .int .u8 2]) → estimPost fb F r gl w e w') := fun e w' h1 h2 => ⟨h1, by rw [if_pos hpk]; exact h2⟩
    rw [hpk] at PK
    clear hpk hF hP hg CG
    go_enter Try.func27, Try.ntmps27
    go_wp2_with (first | (go_at_call 20; refine (PK.out _ (by (repeat (first | with_reducible exact Below.rf _ | with_reducible exact World.below_ext _ _ | with_reducible refine Below.ex ?_ _ | with_reducible refine Below.al ?_ _ | with_reducible refine Below.setCell ?_ (by simp) _ | with_reducible refine Below.drew ?_)))).mono ?_; rintro e w1 ⟨rfl, rfl⟩))
    refine bodyPost_ret (v := .tuple #[.agg #[.pointer none, .slice none 0 0, .slice none 0 0], .int .u8 2]) (by simp [results, Try.results27, go_sem, ↓IntWalk.iteOmega]) rfl ?_
    exact HE.out _ _ (by (repeat (first | with_reducible exact Below.rf _ | with_reducible exact World.below_ext _ _ | with_reducible refine Below.ex ?_ _ | with_reducible refine Below.al ?_ _ | with_reducible refine Below.setCell ?_ (by simp) _ | with_reducible refine Below.drew ?_))) rfl
  | true =>
    rw [hpk] at PK
    have hby : 0 ≤ (F.park r).1 ∧ (F.park r).1 < (F.n : Int) := by
      unfold FS.park at hpk ⊢
      split at hpk
      · rename_i h
        rw [if_pos h]
        simp only
        have hl : r.toNat < F.bays.length := by omega
        have : F.bays.getD r.toNat (-1) = F.bays[r.toNat] := by simp [List.getD_eq_getElem?_getD, hl]
        rw [this]
        exact hF.ok.bay _ (List.getElem_mem hl)
      · cases hpk
    by_cases hgc : F.gcode gl ≠ 0
    · have HE : Hid (∀ e w', Below w.heap.size w w' → e = .returned (.tuple #[.agg #[.pointer none, .slice none 0 0, .slice none 0 0], .int .u8 (F.gcode gl)]) → estimPost fb F r gl w e w') := fun e w' h1 h2 => ⟨h1, by rw [if_neg (by rw [hpk]; simp), if_pos hgc]; exact h2⟩
      generalize F.gcode gl = code at *
      have d1 : (code != 0) = true := by simp [hgc]
      clear hpk hF hP hg hgc hby
      go_enter Try.func27, Try.ntmps27
      go_wp2_with (first | (go_at_call 20; refine (PK.out _ (by (repeat (first | with_reducible exact Below.rf _ | with_reducible exact World.below_ext _ _ | with_reducible refine Below.ex ?_ _ | with_reducible refine Below.al ?_ _ | with_reducible refine Below.setCell ?_ (by simp) _ | with_reducible refine Below.drew ?_)))).mono ?_; rintro e w1 ⟨rfl, rfl⟩) | (go_at_call 59; refine (CG.out _ (by (repeat (first | with_reducible exact Below.rf _ | with_reducible exact World.below_ext _ _ | with_reducible refine Below.ex ?_ _ | with_reducible refine Below.al ?_ _ | with_reducible refine Below.setCell ?_ (by simp) _ | with_reducible refine Below.drew ?_)))).mono ?_; rintro e w2 ⟨rfl, z, rfl⟩))
      refine bodyPost_ret (v := .tuple #[.agg #[.pointer none, .slice none 0 0, .slice none 0 0], .int .u8 code]) (by simp [results, Try.results27, go_sem, ↓IntWalk.iteOmega]) rfl ?_
      exact HE.out _ _ (by (repeat (first | with_reducible exact Below.rf _ | with_reducible exact World.below_ext _ _ | with_reducible refine Below.ex ?_ _ | with_reducible refine Below.al ?_ _ | with_reducible refine Below.setCell ?_ (by simp) _ | with_reducible refine Below.drew ?_))) rfl
    · have hgc0 : F.gcode gl = 0 := by omega
      rw [hgc0] at CG
      have NE := hid (fun (w' : World) (h : Below w.heap.size w w') => newEst_any fb F lab (.slice go gl.length gc) (F.park r).1 gl w' (hF.below h) (hg.below h) (gcode_ok.1 hgc0) hby)
      have HE : Hid (∀ e w', Below w.heap.size w w' → (∃ tv av, e = .returned (.tuple #[.agg #[.pointer (some ⟨fb, 0, none⟩), tv, av], .int .u8 0]) ∧ ∀ lab : Nat → Nat, (∀ k, w.heap.size ≤ k → lab k = 0) → Ints w' lab tv (etl (F.park r).1 gl) ∧ Ints w' lab av (eal F (F.park r).1 gl)) → estimPost fb F r gl w e w') := fun e w' h1 h2 => ⟨h1, by rw [if_neg (by rw [hpk]; simp), if_neg hgc]; exact h2⟩
      generalize (F.park r).1 = bay at *
      clear hpk hF hP hg hgc hgc0 hby
      go_enter Try.func27, Try.ntmps27
      go_wp2_with (first | (go_at_call 20; refine (PK.out _ (by (repeat (first | with_reducible exact Below.rf _ | with_reducible exact World.below_ext _ _ | with_reducible refine Below.ex ?_ _ | with_reducible refine Below.al ?_ _ | with_reducible refine Below.setCell ?_ (by simp) _ | with_reducible refine Below.drew ?_)))).mono ?_; rintro e w1 ⟨rfl, rfl⟩) | (go_at_call 59; refine (CG.out _ (by (repeat (first | with_reducible exact Below.rf _ | with_reducible exact World.below_ext _ _ | with_reducible refine Below.ex ?_ _ | with_reducible refine Below.al ?_ _ | with_reducible refine Below.setCell ?_ (by simp) _ | with_reducible refine Below.drew ?_)))).mono ?_; rintro e w2 ⟨rfl, z, rfl⟩) | (go_at_call 60; refine calls_nm fun w3 hw3 => ?_; refine hold ?_))
      unfold Hid
      have hB3 : Below w.heap.size w w3 := by rw [hw3]; (repeat (first | with_reducible exact Below.rf _ | with_reducible exact World.below_ext _ _ | with_reducible refine Below.ex ?_ _ | with_reducible refine Below.al ?_ _ | with_reducible refine Below.setCell ?_ (by simp) _ | with_reducible refine Below.drew ?_))
      have R3 : Blk w3 w.heap.size 3 (fc (.pointer none) (.slice none 0 0) (.slice none 0 0) undef) := by
        rw [hw3]
        refine ⟨by (simp <;> omega), fun i hi => ?_, fun i hi => by simp [go_sem, ↓IntWalk.iteOmega]⟩
        rcases (by omega : i = 0 ∨ i = 1 ∨ i = 2) with rfl | rfl | rfl <;> simp [go_sem, ↓IntWalk.iteOmega, fc]
      clear hw3
      have hl3 := R3.lt
      refine (NE.out _ hB3).mono ?_
      rintro e w4 ⟨tv, av, rfl, hb4, hi4⟩
      have R4 := R3.below hb4
      obtain ⟨ht0, ha0⟩ := hi4 (fun _ => 0) (fun _ _ => rfl)
      obtain ⟨to, tc, rfl, -⟩ := ht0.ex
      obtain ⟨ao, ac, rfl, -⟩ := ha0.ex
      have HI4 := hid hi4
      have HB4 := hid (hB3.trans (hb4.mono hB3.size))
      have r0 : w4.cell? ⟨w.heap.size, 0, none⟩ = some (.pointer none) := R4.is 0 (by omega)
      have r1 : w4.cell? ⟨w.heap.size, 1, none⟩ = some (.slice none 0 0) := R4.is 1 (by omega)
      have r2 : w4.cell? ⟨w.heap.size, 2, none⟩ = some (.slice none 0 0) := R4.is 2 (by omega)
      have z0 := R4.fz 0 (by omega)
      have z1 := R4.fz 1 (by omega)
      have z2 := R4.fz 2 (by omega)
      have l4 := R4.lt
      clear hB3 R3 hb4 R4 ht0 ha0 hi4
      generalize (etl bay gl).length = tl at *
      generalize (eal F bay gl).length = al at *
      go_wp2
      refine bodyPost_ret (v := .tuple #[.agg #[.pointer (some ⟨fb, 0, none⟩), .slice to tl tc, .slice ao al ac], .int .u8 0]) (by simp [results, Try.results27, go_sem, ↓IntWalk.iteOmega, r0, r1, r2]) rfl ?_
      have hk : KeptBut w.heap.size w4 (((w4.setCell ⟨w.heap.size, 0, none⟩ (.pointer (some ⟨fb, 0, none⟩))).setCell ⟨w.heap.size, 1, none⟩ (.slice to tl tc)).setCell ⟨w.heap.size, 2, none⟩ (.slice ao al ac)) := by
        refine KeptBut.set ?_ (Or.inl (by rfl)) _
        refine KeptBut.set ?_ (Or.inl (by rfl)) _
        refine KeptBut.set ?_ (Or.inl (by rfl)) _
        exact KeptBut.refl _ _
      refine HE.out _ _ ?_ ⟨_, _, rfl, fun lab' hl' => ?_⟩
      · refine Below.setCell ?_ (by simp) _
        refine Below.setCell ?_ (by simp) _
        refine Below.setCell ?_ (by simp) _
        exact HB4.out
      · have g1 := HI4.out (upd lab' w.heap.size 5) (fun k hk => by rw [upd_ne _ _ (by omega)]; exact hl' k (by omega))
        have k1 := KeptL.of_but (lab := upd lab' w.heap.size 5) (A := fun x => x = 5) hk (upd_at _ _ _)
        have rl : ∀ b, (upd lab' w.heap.size 5 b = 0 ∨ 10 ≤ upd lab' w.heap.size 5 b) → (lab' b = 0 ∨ 10 ≤ lab' b) := fun b hx => by
          by_cases e : b = w.heap.size
          · rw [e, upd_at] at hx; omega
          · rw [upd_ne _ _ e] at hx; exact hx
        exact ⟨(g1.1.keptL k1 (fun x hx => by omega)).relab (fun b _ hx => rl b hx), (g1.2.keptL k1 (fun x hx => by omega)).relab (fun b _ hx => rl b hx)⟩
end Go.Proofs.Qxb6500716a
