/-
  Request: the walk.
-/
import Derived.Test.Qxb6500716aPy
namespace Go.Proofs.Qxb6500716a
open Go.RowKit Go.Maps
set_option linter.unusedSimpArgs false
set_option linter.unusedVariables false
set_option maxRecDepth 20000
set_option maxHeartbeats 4000000

def reqPost (o : Opr) (w : World) (e : Ending) (w' : World) : Prop :=
  Below w.heap.size w w' ∧ if o.l.length % 2 = 1 then e = .returned (.tuple #[.agg #[.int .i64 ((o).A), .int .i64 ((o).B), .int .i64 ((o).C), .slice none 0 0, .int .i64 ((o).D), .int .i64 ((o).E)], .bool false])
    else ∃ v, e = .returned (.tuple #[.agg #[.int .i64 ((o).A), .int .i64 ((o).B), .int .i64 ((o).C), v, .int .i64 ((o).D), .int .i64 ((o).E)], .bool true]) ∧ ∀ lab : Nat → Nat, (∀ k, w.heap.size ≤ k → lab k = 0) → GAt w' lab v (gls o.l)
theorem request_any (o : Opr) (v : Value) (lab : Nat → Nat) (w : World) (hI : Ints w lab v o.l) (hl : o.l.length ≤ 65536) : Calls Try.prog 33 #[.agg #[.int .i64 ((o).K), .int .i64 ((o).A), .int .i64 ((o).B), .int .i64 ((o).C), .int .i64 ((o).D), .int .i64 ((o).E), v]] w (reqPost o w) := by
  have GA := hid (fun (w' : World) (h : Below w.heap.size w w') => goals_any o v lab w' (hI.keptL (A := fun _ => False) (KeptL.of_below h) (fun _ h => h.elim)) hl)
  obtain ⟨ao, cap, rfl, hcap⟩ := hI.ex
  obtain ⟨K, A, B, C, D, E, l⟩ := o
  simp only at *
  obtain ⟨n, hn⟩ : ∃ n, l.length = n := ⟨_, rfl⟩
  rw [hn] at GA hl hcap ⊢
  have HN := hid hn
  clear hI hn
  go_enter Try.func33, Try.ntmps33
  go_wp2_with (first | (go_at_call 26; refine hold ?_))
  unfold Hid
  have hbB : Blk ((w.alloc (Obj.cells #[.int .i64 (K), .int .i64 (A), .int .i64 (B), .int .i64 (C), .int .i64 (D), .int .i64 (E), .slice ao n cap] 42)).alloc (Obj.cells #[.int .i64 (0), .int .i64 (0), .int .i64 (0), .slice none 0 0, .int .i64 (0), .int .i64 (0)] 30)) w.heap.size 7 (fun i => (#[.int .i64 (K), .int .i64 (A), .int .i64 (B), .int .i64 (C), .int .i64 (D), .int .i64 (E), .slice ao n cap] : Array Value).getD i undef) := by
    refine ⟨by (simp <;> omega), fun i hi => ?_, fun i hi => by simp [go_sem, ↓IntWalk.iteOmega]⟩
    rcases (by omega : i = 0 ∨ i = 1 ∨ i = 2 ∨ i = 3 ∨ i = 4 ∨ i = 5 ∨ i = 6) with rfl | rfl | rfl | rfl | rfl | rfl | rfl <;> simp [go_sem, ↓IntWalk.iteOmega]
  have hbR : Blk ((w.alloc (Obj.cells #[.int .i64 (K), .int .i64 (A), .int .i64 (B), .int .i64 (C), .int .i64 (D), .int .i64 (E), .slice ao n cap] 42)).alloc (Obj.cells #[.int .i64 (0), .int .i64 (0), .int .i64 (0), .slice none 0 0, .int .i64 (0), .int .i64 (0)] 30)) (w.heap.size + 1) 6 (fun i => (#[.int .i64 (0), .int .i64 (0), .int .i64 (0), .slice none 0 0, .int .i64 (0), .int .i64 (0)] : Array Value).getD i undef) := by
    refine ⟨by (simp <;> omega), fun i hi => ?_, fun i hi => by simp [go_sem, ↓IntWalk.iteOmega]⟩
    rcases (by omega : i = 0 ∨ i = 1 ∨ i = 2 ∨ i = 3 ∨ i = 4 ∨ i = 5) with rfl | rfl | rfl | rfl | rfl | rfl <;> simp [go_sem, ↓IntWalk.iteOmega]
  have hBW : Below w.heap.size w ((w.alloc (Obj.cells #[.int .i64 (K), .int .i64 (A), .int .i64 (B), .int .i64 (C), .int .i64 (D), .int .i64 (E), .slice ao n cap] 42)).alloc (Obj.cells #[.int .i64 (0), .int .i64 (0), .int .i64 (0), .slice none 0 0, .int .i64 (0), .int .i64 (0)] 30)) := by (repeat (first | with_reducible exact Below.rf _ | with_reducible exact World.below_ext _ _ | with_reducible refine Below.ex ?_ _ | with_reducible refine Below.al ?_ _ | with_reducible refine Below.setCell ?_ (by simp) _ | with_reducible refine Below.drew ?_))
  refine (GA.out _ hBW).mono ?_
  rintro e w1 ⟨hb1, hg1⟩
  have B1 := hbB.below hb1
  have R1 := hbR.below hb1
  have HBW := hid (hBW.trans (hb1.mono hBW.size))
  have HR1 := hid R1
  have a1 : w1.cell? ⟨w.heap.size, 1, none⟩ = some (.int .i64 (A)) := B1.is 1 (by omega)
  have a2 : w1.cell? ⟨w.heap.size, 2, none⟩ = some (.int .i64 (B)) := B1.is 2 (by omega)
  have a3 : w1.cell? ⟨w.heap.size, 3, none⟩ = some (.int .i64 (C)) := B1.is 3 (by omega)
  have a4 : w1.cell? ⟨w.heap.size, 4, none⟩ = some (.int .i64 (D)) := B1.is 4 (by omega)
  have a5 : w1.cell? ⟨w.heap.size, 5, none⟩ = some (.int .i64 (E)) := B1.is 5 (by omega)
  have r0 : w1.cell? ⟨w.heap.size + 1, 0, none⟩ = some (.int .i64 (0)) := R1.is 0 (by omega)
  have r1 : w1.cell? ⟨w.heap.size + 1, 1, none⟩ = some (.int .i64 (0)) := R1.is 1 (by omega)
  have r2 : w1.cell? ⟨w.heap.size + 1, 2, none⟩ = some (.int .i64 (0)) := R1.is 2 (by omega)
  have r3 : w1.cell? ⟨w.heap.size + 1, 3, none⟩ = some (.slice none 0 0) := R1.is 3 (by omega)
  have r4 : w1.cell? ⟨w.heap.size + 1, 4, none⟩ = some (.int .i64 (0)) := R1.is 4 (by omega)
  have r5 : w1.cell? ⟨w.heap.size + 1, 5, none⟩ = some (.int .i64 (0)) := R1.is 5 (by omega)
  have z0 := R1.fz 0 (by omega)
  have z1 := R1.fz 1 (by omega)
  have z2 := R1.fz 2 (by omega)
  have z3 := R1.fz 3 (by omega)
  have z4 := R1.fz 4 (by omega)
  have z5 := R1.fz 5 (by omega)
  have l1 := B1.lt
  have l2 := R1.lt
  clear hbB hbR hBW hb1 B1 R1
  by_cases hodd : n % 2 = 1
  · rw [HN.out, if_pos hodd] at hg1
    subst hg1
    go_wp2
    refine bodyPost_ret (v := .tuple #[.agg #[.int .i64 (A), .int .i64 (B), .int .i64 (C), .slice none 0 0, .int .i64 (D), .int .i64 (E)], .bool false]) (by simp [results, Try.results33, go_sem, ↓IntWalk.iteOmega, r0, r1, r2, r3, r4, r5]) rfl ?_
    refine ⟨?_, by rw [HN.out, if_pos hodd]⟩
    refine Below.setCell ?_ (by simp) _
    refine Below.setCell ?_ (by simp) _
    refine Below.setCell ?_ (by simp) _
    refine Below.setCell ?_ (by simp) _
    refine Below.setCell ?_ (by simp) _
    refine Below.setCell ?_ (by simp) _
    exact HBW.out
  · rw [HN.out, if_neg hodd] at hg1
    obtain ⟨gv, rfl, hv⟩ := hg1
    obtain ⟨go, gc, hgo, -⟩ := (hv (fun _ => 0) (fun _ _ => rfl)).ex
    subst hgo
    have HV := hid hv
    clear hv
    go_wp2
    refine bodyPost_ret (v := .tuple #[.agg #[.int .i64 (A), .int .i64 (B), .int .i64 (C), .slice go (gls l).length gc, .int .i64 (D), .int .i64 (E)], .bool true]) (by simp [results, Try.results33, go_sem, ↓IntWalk.iteOmega, r0, r1, r2, r3, r4, r5]) rfl ?_
    have hk : KeptBut (w.heap.size + 1) w1 ((((((w1.setCell ⟨w.heap.size + 1, 0, none⟩ (.int .i64 (A))).setCell ⟨w.heap.size + 1, 1, none⟩ (.int .i64 (B))).setCell ⟨w.heap.size + 1, 2, none⟩ (.int .i64 (C))).setCell ⟨w.heap.size + 1, 3, none⟩ (.slice go (gls l).length gc)).setCell ⟨w.heap.size + 1, 4, none⟩ (.int .i64 (D))).setCell ⟨w.heap.size + 1, 5, none⟩ (.int .i64 (E))) := by
      refine KeptBut.set ?_ (Or.inl (by rfl)) _
      refine KeptBut.set ?_ (Or.inl (by rfl)) _
      refine KeptBut.set ?_ (Or.inl (by rfl)) _
      refine KeptBut.set ?_ (Or.inl (by rfl)) _
      refine KeptBut.set ?_ (Or.inl (by rfl)) _
      refine KeptBut.set ?_ (Or.inl (by rfl)) _
      exact KeptBut.refl _ _
    refine ⟨?_, ?_⟩
    · refine Below.setCell ?_ (by simp) _
      refine Below.setCell ?_ (by simp) _
      refine Below.setCell ?_ (by simp) _
      refine Below.setCell ?_ (by simp) _
      refine Below.setCell ?_ (by simp) _
      refine Below.setCell ?_ (by simp) _
      exact HBW.out
    · rw [HN.out, if_neg hodd]
      refine ⟨_, rfl, fun lab' hl' => ?_⟩
      have g1 := HV.out (upd lab' (w.heap.size + 1) 5) (fun k hk => by simp at hk; rw [upd_ne _ _ (by omega)]; exact hl' k (by omega))
      have k1 := KeptL.of_but (lab := upd lab' (w.heap.size + 1) 5) (A := fun x => x = 5) hk (upd_at _ _ _)
      refine (g1.keptL k1 (fun x hx => by omega)).relab (fun b hb hx => ?_)
      by_cases e : b = w.heap.size + 1
      · rw [e, upd_at] at hx; omega
      · rw [upd_ne _ _ e] at hx; exact hx
end Go.Proofs.Qxb6500716a
