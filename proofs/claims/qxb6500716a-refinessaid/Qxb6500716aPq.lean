/-
  The open list: Push, Reset.
-/
import Derived.Test.Qxb6500716aPp
namespace Go.Proofs.Qxb6500716a
open Go.RowKit Go.Maps
set_option linter.unusedSimpArgs false
set_option linter.unusedVariables false
set_option maxRecDepth 20000
set_option maxHeartbeats 4000000

/-- What Push leaves. -/
def pushPost (lab : Nat → Nat) (p : Nat) (f : Nat → Value) (l : List It) (w : World) (e : Ending) (w' : World) : Prop :=
  ∃ hv' lab', e = .returned (.tuple #[]) ∧ Blk w' p 16 (upd f 2 hv') ∧ LAt w' lab' 6 3 hv' l.length (hrow l) ∧ (∀ k, k < w.heap.size → lab' k = lab k) ∧ KeptL lab (fun x => x = 5 ∨ x = 6) w w'
theorem push_any (p : Nat) (f : Nat → Value) (l : List It) (x : It) (lab : Nat → Nat) (w : World) (hb : Blk w p 16 f) (hl : LAt w lab 6 3 (f 2) l.length (hrow l)) (hlp : lab p = 5) (hn : l.length ≤ 1000000000) :
    Calls Try.prog 97 #[.pointer (some ⟨p, 2, none⟩), .agg #[.int .i64 (x.k), .int .i64 (x.t), .int .i64 (x.v)]] w (pushPost lab p f (l ++ [x]) w) := by
  obtain ⟨k, t, v⟩ := x
  simp only
  obtain ⟨ho, hc, hv⟩ := hl.val
  have c2 := hb.is 2 (by omega)
  rw [hv] at c2 hl
  have HB := hid hb
  have HLp := hid hlp
  have hud : ∀ k, k < w.heap.size → upd lab w.heap.size 0 k = lab k := fun k hk => upd_ne _ _ (by omega)
  have HL := hid (hl.relab hud)
  have HV := hid hv
  have hpl := hb.lt
  obtain ⟨n, hnn⟩ : ∃ n, l.length = n := ⟨_, rfl⟩
  rw [hnn] at c2 HL hn
  have HN := hid hnn
  clear hb hl hlp hv hnn hud
  go_enter Try.func97, Try.ntmps97
  go_wp2
  obtain ⟨bx, hbx⟩ : ∃ x, w.heap.size = x := ⟨_, rfl⟩
  have hWB : Below w.heap.size w (w.alloc (Obj.cells #[.int .i64 (k), .int .i64 (t), .int .i64 (v)] 138)) := (Below.rf _).al _
  have q0 : (w.alloc (Obj.cells #[.int .i64 (k), .int .i64 (t), .int .i64 (v)] 138)).cell? ⟨w.heap.size, 0, none⟩ = some (.int .i64 (k)) := by simp [go_sem, ↓IntWalk.iteOmega]
  have q1 : (w.alloc (Obj.cells #[.int .i64 (k), .int .i64 (t), .int .i64 (v)] 138)).cell? ⟨w.heap.size, 1, none⟩ = some (.int .i64 (t)) := by simp [go_sem, ↓IntWalk.iteOmega]
  have q2 : (w.alloc (Obj.cells #[.int .i64 (k), .int .i64 (t), .int .i64 (v)] 138)).cell? ⟨w.heap.size, 2, none⟩ = some (.int .i64 (v)) := by simp [go_sem, ↓IntWalk.iteOmega]
  have hbs : (w.alloc (Obj.cells #[.int .i64 (k), .int .i64 (t), .int .i64 (v)] 138)).heap.size = w.heap.size + 1 := by simp
  have HL1 := hid (HL.out.below hWB)
  have HB1 := hid (HB.out.below hWB)
  have HWB := hid hWB
  have c21 : (w.alloc (Obj.cells #[.int .i64 (k), .int .i64 (t), .int .i64 (v)] 138)).cell? ⟨p, 2, none⟩ = some (.slice ho n hc) := (World.cell?_of_block (hWB.block p hpl)).trans c2
  have hbx1 : w.heap.size < (w.alloc (Obj.cells #[.int .i64 (k), .int .i64 (t), .int .i64 (v)] 138)).heap.size := by simp
  have hpl1 : p < (w.alloc (Obj.cells #[.int .i64 (k), .int .i64 (t), .int .i64 (v)] 138)).heap.size := by simp; omega
  rw [hbx] at q0 q1 q2 HL1 hbx1 ⊢
  have HBX := hid hbx
  have hpbx : p < bx := by omega
  generalize (w.alloc (Obj.cells #[.int .i64 (k), .int .i64 (t), .int .i64 (v)] 138)) = w1 at *
  clear hWB hbs c2 hpl hbx
  have HUA : Hid (upd lab bx 0 bx = 0) := upd_at _ _ _
  have HUP : Hid (upd lab bx 0 p = 5) := (upd_ne _ _ (by omega)).trans HLp.out
  obtain ⟨lb1, hlb1⟩ : ∃ x, upd lab bx 0 = x := ⟨_, rfl⟩
  rw [hlb1] at HL1 HUA HUP
  have HLB1 := hid hlb1
  clear hlb1 HL
  refine wp_region_tree 10 (fun w' => w'.cell? ⟨p, 2, none⟩ = some (.slice ho n hc) ∧ w'.cell? ⟨bx, 0, none⟩ = some (.int .i64 (k)) ∧ w'.cell? ⟨bx, 1, none⟩ = some (.int .i64 (t)) ∧ w'.cell? ⟨bx, 2, none⟩ = some (.int .i64 (v))) (.q 0 false (.q 1 false (.q 2 false (.q 3 false (.q 4 true (.q 5 true (.one 6 true (.one 7 true (.q 8 false (.q 9 false (.one 10 false .nil))))))))))) (by kernel_rfl) (by kernel_rfl) (by kernel_rfl) ?_ ?_
  · simp [go_sem, ↓IntWalk.iteOmega, *]
  repeat (first | (refine wpTr_qf (v := ?_) rfl rfl ?_ ?_; rotate_left; focus (intro w; go_simp; (try (with_reducible rfl)); done); try simp only [List.getElem_toArray, List.getElem_cons_zero, List.getElem_cons_succ, Act.put, List.setIfInBounds_toArray, List.set_cons_zero, List.set_cons_succ]) | (refine wpTr_qt (v := ?_) rfl rfl ?_ ?_; rotate_left; focus (intro w hSw; (try dsimp only at hSw); go_simp; (try (with_reducible rfl)); done); try simp only [List.getElem_toArray, List.getElem_cons_zero, List.getElem_cons_succ, Act.put, List.setIfInBounds_toArray, List.set_cons_zero, List.set_cons_succ]))
  refine wpTr_one rfl rfl (fun K hK => ?_)
  go_simp
  refine hK.out _ _ (fun _ => by simp [go_sem, ↓IntWalk.iteOmega, *]) ?_
  clear hK K
  refine wpTr_one rfl rfl (fun K hK => ?_)
  refine wp_ls _ _ 100 138 (.agg #[.int .i64 (0), .int .i64 (0), .int .i64 (0)]) 3 24 rfl Try.underlying100 (by kernel_rfl) rfl (by decide) lb1 6 (.slice ho n hc) n (hrow l) (by simp [go_sem]) (HL1.out.below (by (repeat (first | with_reducible exact Below.rf _ | with_reducible exact World.below_ext _ _ | with_reducible refine Below.ex ?_ _ | with_reducible refine Below.al ?_ _ | with_reducible refine Below.setCell ?_ (by simp) _ | with_reducible refine Below.drew ?_)))) w1.heap.size 1 1 (hrow [⟨k, t, v⟩]) (by decide) (by omega) (by omega) (by simp [go_sem]) rfl ?_ ?_ ?_
  · intro j u hj
    have hj2 := (List.getElem?_eq_some_iff.1 hj).1
    simp [hrow] at hj2
    rcases (by omega : j = 0 ∨ j = 1 ∨ j = 2) with rfl | rfl | rfl <;> simp [hrow] at hj <;> subst hj <;> simp [go_sem, ↓IntWalk.iteOmega]
  · simp [hrow, Value.oneCell']
  intro v' w8 lb8 hls hlab hk8
  rw [← hrow_app] at hls
  obtain ⟨vo, vc, rfl⟩ := hls.val
  have hs8 := hk8.size
  simp only [World.size_alloc, World.size_drew] at hs8
  have hB2 : Below w1.heap.size w1 ((w1.alloc (Obj.cells #[.int .i64 (k), .int .i64 (t), .int .i64 (v)] 138)).drew) := by (repeat (first | with_reducible exact Below.rf _ | with_reducible exact World.below_ext _ _ | with_reducible refine Below.ex ?_ _ | with_reducible refine Below.al ?_ _ | with_reducible refine Below.setCell ?_ (by simp) _ | with_reducible refine Below.drew ?_))
  have b8 := (HB1.out.below hB2).keptL hk8 (by rw [HUP.out]; omega)
  have s2 : w8.cell? ⟨p, 2, none⟩ = some (.slice ho n hc) := by
    have := b8.is 2 (by omega)
    rw [HV.out, HN.out] at this
    exact this
  have z2 : w8.frozen? ⟨p, 2, none⟩ = false := b8.fz 2 (by omega)
  have hx8 : ∀ i, w8.cell? ⟨bx, i, none⟩ = w1.cell? ⟨bx, i, none⟩ := fun i => (hk8.cell i (by simp; omega) (by rw [HUA.out]; omega)).trans (World.cell?_of_block (hB2.block bx hbx1))
  refine hK.out _ _ (fun _ => ⟨s2, (hx8 0).trans q0, (hx8 1).trans q1, (hx8 2).trans q2⟩) ?_
  have KK := hid (And.intro b8 (And.intro hls (And.intro hlab hk8)))
  have HB2 := hid hB2
  clear hK K hls hlab hk8 b8 hx8 hB2
  simp only [Act.put, List.setIfInBounds_toArray, List.set_cons_zero, List.set_cons_succ]
  repeat (first | (refine wpTr_qf (v := ?_) rfl rfl ?_ ?_; rotate_left; focus (intro w; go_simp; (try (with_reducible rfl)); done); try simp only [List.getElem_toArray, List.getElem_cons_zero, List.getElem_cons_succ, Act.put, List.setIfInBounds_toArray, List.set_cons_zero, List.set_cons_succ]) | (refine wpTr_qt (v := ?_) rfl rfl ?_ ?_; rotate_left; focus (intro w hSw; (try dsimp only at hSw); go_simp; (try (with_reducible rfl)); done); try simp only [List.getElem_toArray, List.getElem_cons_zero, List.getElem_cons_succ, Act.put, List.setIfInBounds_toArray, List.set_cons_zero, List.set_cons_succ]))
  refine wpTr_one rfl rfl (fun K hK => ?_)
  go_simp
  refine hK.out _ _ (fun h => by cases h) ?_
  clear hK K
  refine wpTr_nil ?_
  refine NoPanic.normal ?_
  go_wp2
  refine bodyPost_end (v := .tuple #[]) (by simp [results, Try.results97, go_sem]) rfl ?_
  obtain ⟨b8, hls, hlab, hk8⟩ := KK.out
  have l5 : lb8 p = 5 := (hlab p (by simp; omega)).trans HUP.out
  have hk9 : KeptL lb8 (fun x => x = 5) w8 (w8.setCell ⟨p, 2, none⟩ (.slice vo (n + 1) vc)) := (KeptL.refl lb8 (fun x => x = 5) w8).set l5 _
  refine ⟨.slice vo (n + 1) vc, lb8, rfl, b8.set 2 _ (by omega), ?_, fun j hj => ?_, ?_⟩
  · rw [List.length_append, HN.out]; exact hls.keptL hk9 (by omega)
  · rw [hlab j (by have := HBX.out; simp; omega), ← HLB1.out]
    exact upd_ne _ _ (by rw [HBX.out] at hj; omega)
  · have h1 : KeptL lb1 (fun x => x = 5 ∨ x = 6) w1 w8 := (KeptL.of_below HB2.out).trans (hk8.mono (fun x hx => Or.inr hx))
    have h2 := h1.trans' (hk9.mono (B := fun x => x = 5 ∨ x = 6) (fun x hx => Or.inl hx)) (fun i hi => hlab i (by simp; omega))
    refine ((KeptL.of_below (lab := lab) HWB.out).trans' h2 (fun i hi => ?_)).trans (KeptL.of_below ?_)
    · rw [← HLB1.out]; exact upd_ne _ _ (by rw [HBX.out] at hi; omega)
    · (repeat (first | with_reducible exact Below.rf _ | with_reducible exact World.below_ext _ _ | with_reducible refine Below.ex ?_ _ | with_reducible refine Below.al ?_ _ | with_reducible refine Below.setCell ?_ (by simp) _ | with_reducible refine Below.drew ?_))
theorem reset_any (p : Nat) (f : Nat → Value) (lab : Nat → Nat) (w : World) (hb : Blk w p 16 f) (hlp : lab p = 5) :
    Calls Try.prog 94 #[.pointer (some ⟨p, 2, none⟩)] w fun e w' => e = .returned (.tuple #[]) ∧ w' = w.setCell ⟨p, 2, none⟩ (.slice none 0 0) := by
  have c2 := hb.is 2 (by omega)
  have z2 := hb.fz 2 (by omega)
  have hl := hb.lt
  clear hb
  go_enter Try.func94, Try.ntmps94
  go_wp2
  refine bodyPost_end (v := .tuple #[]) (by simp [results, Try.results94, go_sem]) rfl ?_
  exact ⟨rfl, rfl⟩
end Go.Proofs.Qxb6500716a
