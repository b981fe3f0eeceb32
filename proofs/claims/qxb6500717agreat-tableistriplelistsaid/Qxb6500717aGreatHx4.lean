/-
  Push, exactly.
-/
import Derived.Test.Qxb6500717aGreatHx3
namespace Go.Proofs.Qxb6500717aGreat
open Go.RowKit
set_option linter.unusedSimpArgs false
set_option linter.unusedVariables false
/-- 'append' onto the nodes, exactly. -/
theorem wp_hpX {w : World} {o : Oper} {a : Act} {K : Act → World → Prop} {Q : Exit → Act → World → Prop} (hgd : o.guard = none) (s x : Operand)
    (ho : o.op = .call { callee := .builtin .append, args := #[s, x], argTypes := #[43, 43] })
    (ao : Option Addr) (L : List Ent) (n cap bb : Nat) (hLn : L.length = n) (hs : a.eval s = .slice ao n cap) (hn : n ≤ 1000000) (hnc : n ≤ cap) (hb : (ao = none ∧ cap = 0) ∨ (ao = some ⟨bb, 0, none⟩ ∧ HX w bb cap L))
    (b2 : Nat) (y0 y1 y2 y3 : Int) (hx : a.eval x = .slice (some ⟨b2, 0, none⟩) 1 1) (h0 : w.cell? ⟨b2, 0, none⟩ = some (.int .i64 (y0))) (h1 : w.cell? ⟨b2, 1, none⟩ = some (.int .i64 (y1))) (h2 : w.cell? ⟨b2, 2, none⟩ = some (.int .i64 (y2))) (h3 : w.cell? ⟨b2, 3, none⟩ = some (.int .i64 (y3)))
    (h : ∀ g cap' w', (g = bb ∧ ao = some ⟨bb, 0, none⟩ ∨ w.heap.size ≤ g) → HX w' g cap' (L ++ [(y0, y1, y2, y3)]) → KeptBut bb w w' → K (a.put o.dst (.slice (some ⟨g, 0, none⟩) (n + 1) cap')) w') : Oper.wp Tryz.prog o a w K Q := by
  have hnews : ∀ (j : Nat) (u : Value), [.int .i64 (y0), .int .i64 (y1), .int .i64 (y2), .int .i64 (y3)][j]? = some u → w.cell? ⟨b2, 0 + j, none⟩ = some u := by
    intro j u hj
    have hj2 := (List.getElem?_eq_some_iff.1 hj).1
    simp at hj2
    rcases (by omega : j = 0 ∨ j = 1 ∨ j = 2 ∨ j = 3) with rfl | rfl | rfl | rfl <;> simp at hj <;> subst hj <;> simpa
  have hone : ∀ u ∈ ([.int .i64 (y0), .int .i64 (y1), .int .i64 (y2), .int .i64 (y3)] : List Value), u.oneCell' = true := by simp [Value.oneCell']
  have hrow : erow L ++ [.int .i64 (y0), .int .i64 (y1), .int .i64 (y2), .int .i64 (y3)] = erow (L ++ [(y0, y1, y2, y3)]) := by rw [erow_app]; rfl
  have fresh : ∀ v' w', w'.ownsRow w.heap.size 102 4 v' (n + 1) (erow (L ++ [(y0, y1, y2, y3)])) → Below w.heap.size w w' → K (a.put o.dst v') w' := by
    intro v' w' hown hB
    obtain ⟨h1, h2⟩ := hown
    rcases h2 with ⟨_, h2⟩ | ⟨g, cap', cur, hv, hg, hh, hnc, _, hsz, ht⟩
    · omega
    · rw [hv]
      refine h g cap' w' (Or.inr hg) ⟨(Array.getElem?_eq_some_iff.1 hh).1, fun j hj => ?_, fun j hj => ?_, fun j u hu => ?_, by rw [erow_len, List.length_append, hLn]; simp; omega⟩ ⟨hB.os, hB.tape, hB.output, hB.size, fun k hk _ => hB.block k hk⟩
      · rw [cell_of_row _ _ j cur 102 (0, 0) hh, Array.getElem?_eq_getElem (by omega)]; rfl
      · unfold World.frozen?; simp only [hh]; simp
      · rw [cell_of_row _ _ j cur 102 (0, 0) hh]
        rw [← ht, List.getElem?_take] at hu
        split at hu
        · simpa using hu
        · cases hu
  obtain ⟨i, hi, hz0, hz1, hz2⟩ := info_parts (P := Tryz.prog) (e := 102) (z := .agg #[.int .i64 (0), .int .i64 (0), .int .i64 (0), .int .i64 (0)]) (size := 4) (bytes := 32) (by kernel_rfl)
  rcases hb with ⟨rfl, rfl⟩ | ⟨rfl, hb⟩
  · obtain rfl : n = 0 := by omega
    have := step_app (w := w) (ops := #[]) (E := True) (K := K) (Q := Q) hgd s x 43 ho w.heap.size 102 (.agg #[.int .i64 (0), .int .i64 (0), .int .i64 (0), .int .i64 (0)]) 4 32 Tryz.underlying43 (by kernel_rfl) rfl (by decide) _ 0 [] hs ⟨rfl, Or.inl ⟨rfl, rfl⟩⟩ b2 0 1 1 [.int .i64 (y0), .int .i64 (y1), .int .i64 (y2), .int .i64 (y3)] hx rfl hnews hone (by omega) (by omega) (Nat.le_refl _) (fun v' w' hown hB => fresh v' w' (by rw [show L = [] from List.length_eq_zero_iff.1 hLn]; exact hown) hB)
    rwa [if_pos (by simp [Region.wanted, hgd])] at this
  · have p1 : Pad w bb (4 * cap) (erow L) := hb
    have p2 : (erow L).length = 4 * n := by rw [erow_len, hLn]
    by_cases hroom : n + 1 ≤ cap
    · have := step_append_room (w := w) (ops := #[]) (E := True) (K := K) (Q := Q) hgd s x 43 ho 102 i 4 Tryz.underlying43 hi hz1 bb 0 n cap hs ⟨b2, 0, none⟩ 1 1 [.int .i64 (y0), .int .i64 (y1), .int .i64 (y2), .int .i64 (y3)] hx rfl (fun j u hj => by rw [Addr.add_lit]; exact hnews j u hj) hone hroom (fun j hj => by
        simp at hj
        rw [Nat.zero_add]
        exact ⟨p1.has _ (by omega), p1.fz _ (by omega)⟩) (by
        have hp := p1.push [.int .i64 (y0), .int .i64 (y1), .int .i64 (y2), .int .i64 (y3)] (by simp; omega)
        rw [p2, hrow] at hp
        rw [Nat.zero_add, Nat.mul_comm]
        exact h bb cap _ (Or.inl ⟨rfl, rfl⟩) hp (setCells_kept bb _ _ w))
      rwa [if_pos (by simp [Region.wanted, hgd])] at this
    · obtain ⟨v', w', hrun, r1, r2⟩ := run_append_arg_grows (P := Tryz.prog) w 43 o.type 102 i (.agg #[.int .i64 (0), .int .i64 (0), .int .i64 (0), .int .i64 (0)]) 4 32 Tryz.underlying43 hi hz0 hz1 hz2 rfl (by omega) ⟨bb, 0, none⟩ n cap (erow L) (by omega) (fun j u hj => by rw [Addr.add_lit, Nat.zero_add]; exact p1.is j u hj) ⟨b2, 0, none⟩ 1 1 [.int .i64 (y0), .int .i64 (y1), .int .i64 (y2), .int .i64 (y3)] rfl (fun j u hj => by rw [Addr.add_lit]; exact hnews j u hj) (by omega) (by simp only [maxLen]; omega) (by omega)
      unfold Oper.wp
      simp [execOp, ho, resolve, invoke, builtin, hs, hx, hrun, Result.andThen]
      exact fresh v' w' (by rw [← hrow]; exact r1) ((Below.refl w.heap.size w).grown r2 (Nat.le_refl _) (fun k hk => by cases hk))

def pushX (L : List Ent) (e : Ent) (nx : Nat) (en : Ending) (L' : List Ent) (nx' : Nat) : Prop := en = .returned (.tuple #[]) ∧ nx' = nx + 1 ∧ isHeap L' ∧ L'.Perm (L ++ [e])
structure PX (lab : Nat → Nat) (d : Nat) (tv mv : Value) (g cap nx : Nat) (L2 : List Ent) (w wr : World) : Prop where
  hb : HX wr g cap L2
  lt : d < wr.heap.size
  c0 : wr.cell? ⟨d, 0, none⟩ = some tv
  c1 : wr.cell? ⟨d, 1, none⟩ = some (.slice (some ⟨g, 0, none⟩) L2.length cap)
  c2 : wr.cell? ⟨d, 2, none⟩ = some (.int .i64 ((nx + 1 : Nat)))
  c3 : wr.cell? ⟨d, 3, none⟩ = some mv
  fz : ∀ i, i < 4 → wr.frozen? ⟨d, i, none⟩ = false
  kl : KeptL lab (fun x => x = 1 ∨ x = 2) w wr
section
variable {lab : Nat → Nat} {d : Nat} {tv mv : Value} {g cap nx : Nat} {L2 : List Ent} {w wr w' : World}
theorem PX.below (h : PX lab d tv mv g cap nx L2 w wr) (hb : Below wr.heap.size wr w') : PX lab d tv mv g cap nx L2 w w' := by
  have e := hb.block d h.lt
  have ce : ∀ i, w'.cell? ⟨d, i, none⟩ = wr.cell? ⟨d, i, none⟩ := fun i => World.cell?_of_block e
  exact ⟨h.hb.below hb, Nat.lt_of_lt_of_le h.lt hb.size, (ce 0).trans h.c0, (ce 1).trans h.c1, (ce 2).trans h.c2, (ce 3).trans h.c3, fun i hi => (World.frozen?_of_block e).trans (h.fz i hi), h.kl.trans (KeptL.of_below hb)⟩
theorem PX.put (h : PX lab d tv mv g cap nx L2 w wr) (hgd : g ≠ d) (hgl : g < w.heap.size → lab g = 2) {i : Nat} (hi : i < L2.length) (e : Ent) : PX lab d tv mv g cap nx (L2.set i e) w ((((wr.setCell ⟨g, i * 4, none⟩ (.int .i64 (e.1))).setCell ⟨g, i * 4 + 1, none⟩ (.int .i64 (e.2.1))).setCell ⟨g, i * 4 + 2, none⟩ (.int .i64 (e.2.2.1))).setCell ⟨g, i * 4 + 3, none⟩ (.int .i64 (e.2.2.2))) := by
  have kb : KeptBut g wr ((((wr.setCell ⟨g, i * 4, none⟩ (.int .i64 (e.1))).setCell ⟨g, i * 4 + 1, none⟩ (.int .i64 (e.2.1))).setCell ⟨g, i * 4 + 2, none⟩ (.int .i64 (e.2.2.1))).setCell ⟨g, i * 4 + 3, none⟩ (.int .i64 (e.2.2.2))) := ((((KeptBut.refl g wr).set' _ _).set' _ _).set' _ _).set' _ _
  refine ⟨h.hb.put hi e, Nat.lt_of_lt_of_le h.lt kb.size, (kb.cell 0 h.lt (Ne.symm hgd)).trans h.c0, by rw [List.length_set]; exact (kb.cell 1 h.lt (Ne.symm hgd)).trans h.c1, (kb.cell 2 h.lt (Ne.symm hgd)).trans h.c2, (kb.cell 3 h.lt (Ne.symm hgd)).trans h.c3, fun j hj => (kb.frozen j h.lt (Ne.symm hgd)).trans (h.fz j hj), ?_⟩
  refine ⟨by rw [kb.os]; exact h.kl.os, by rw [kb.tape]; exact h.kl.tape, by rw [kb.output]; exact h.kl.output, Nat.le_trans h.kl.size kb.size, fun j hj hn => ?_⟩
  rw [kb.block j (by have := h.kl.size; omega) (fun e2 => hn (by rw [e2, hgl (by omega)]; exact Or.inr rfl))]
  exact h.kl.block j hj hn
theorem PX.done (h : PX lab d tv mv g cap nx L2 w wr) (hgd : g ≠ d) (hgl : g < w.heap.size → lab g = 2) (hd : lab d = 1) {L : List Ent} {e : Ent} (hpm : L2.Perm (L ++ [e])) (hh : isHeap L2) : hpXPost lab d tv mv (pushX L e nx) w (.returned (.tuple #[])) wr := by
  have hle := h.hb.le
  have hpos : 0 < L2.length := by rw [hpm.length_eq]; simp
  refine ⟨L2, nx + 1, ⟨rfl, rfl, hh, hpm⟩, upd lab g 2, ⟨?_, h.lt, h.c0, h.c2, h.c3, h.fz, _, cap, h.c1, hle, Or.inr ⟨g, rfl, upd_at _ _ _, by omega, h.hb⟩⟩, fun j hj => ?_, h.kl⟩
  · rw [upd_ne _ _ (Ne.symm hgd)]; exact hd
  · by_cases hjg : j = g
    · subst hjg
      rw [upd_at, hgl hj]
    · rw [upd_ne _ _ hjg]
end
set_option maxRecDepth 20000 in
set_option maxHeartbeats 4000000 in
theorem hpushX (d : Nat) (lab : Nat → Nat) (tv mv : Value) (L : List Ent) (nx : Nat) (x y z : Int) (w : World) (h : DX w lab d tv mv L nx) (hk : L.length ≤ 900000) (hk2 : nx ≤ 900000) (hheap : isHeap L) : Calls Tryz.prog 14 #[.pointer (some ⟨d, 1, none⟩), .agg #[.int .i64 (x), .int .i64 (y), .int .i64 (z)]] w (hpXPost lab d tv mv (pushX L (x, y, z, (nx : Int)) nx) w) := by
  have HH := hid h
  obtain ⟨ao, cap, h1, h5, h6⟩ := h.hp
  have h2 := h.c2
  have HUP := hid (up_start hheap (x, y, z, (nx : Int)))
  clear hheap
  have l1 := h.lt
  have f1 := h.fz 1 (by omega)
  have f2 := h.fz 2 (by omega)
  obtain ⟨bb, hbb, hbd, hbw⟩ : ∃ bb, (((ao = none ∧ cap = 0) ∧ w.heap.size < bb) ∨ (ao = some ⟨bb, 0, none⟩ ∧ HX w bb cap L ∧ lab bb = 2)) ∧ bb ≠ d ∧ bb ≠ w.heap.size := by
    rcases h6 with h6 | ⟨b, e1, e2, e3, e4⟩
    · exact ⟨w.heap.size + 1, Or.inl ⟨h6, by omega⟩, by omega, by omega⟩
    · exact ⟨b, Or.inr ⟨e1, e4, e2⟩, fun e => by have := h.ld; rw [← e, e2] at this; omega, by have := e4.lt; omega⟩
  have HBB := hid hbb
  clear h h6 hbb
  go_enter Tryz.func14, Tryz.ntmps14
  go_wp2
  refine wp_region_tree 15 (fun w' => w'.cell? ⟨d, 1, none⟩ = some (.slice ao L.length cap) ∧ w'.cell? ⟨d, 2, none⟩ = some (.int .i64 (nx)) ∧ w'.cell? ⟨w.heap.size, 0, none⟩ = some (.int .i64 (x)) ∧ w'.cell? ⟨w.heap.size, 1, none⟩ = some (.int .i64 (y)) ∧ w'.cell? ⟨w.heap.size, 2, none⟩ = some (.int .i64 (z))) (.q 0 false (.q 1 false (.q 2 false (.q 3 false (.q 4 true (.q 5 true (.q 6 false (.q 7 false (.q 8 false (.q 9 true (.q 10 false (.one 11 true (.one 12 true (.one 13 true (.one 14 true (.one 15 false (.nil))))))))))))))))) (by kernel_rfl) (by kernel_rfl) (by kernel_rfl) ?_ ?_
  · simp [go_sem, ↓IntWalk.iteOmega, *]
  repeat (first | (refine wpTr_qf (v := ?_) rfl rfl ?_ ?_; rotate_left; focus (intro w; go_simp; (try (with_reducible rfl)); done); try simp only [List.getElem_toArray, List.getElem_cons_zero, List.getElem_cons_succ, Act.put, List.setIfInBounds_toArray, List.set_cons_zero, List.set_cons_succ]) | (refine wpTr_qt (v := ?_) rfl rfl ?_ ?_; rotate_left; focus (intro w hSw; (try dsimp only at hSw); go_simp; (try (with_reducible rfl)); done); try simp only [List.getElem_toArray, List.getElem_cons_zero, List.getElem_cons_succ, Act.put, List.setIfInBounds_toArray, List.set_cons_zero, List.set_cons_succ]))
  refine wpTr_one rfl rfl (fun K hK => ?_)
  go_simp
  refine hK.out _ _ (fun _ => by simp [go_sem, ↓IntWalk.iteOmega, *]) ?_
  clear hK K
  refine wpTr_one rfl rfl (fun K hK => ?_)
  refine wp_hpX rfl _ _ rfl ao L L.length cap bb rfl rfl (by omega) h5 (by rcases HBB.out with h | h; exact Or.inl h.1; exact Or.inr ⟨h.1, h.2.1.below (by (repeat (first | with_reducible exact Below.rf _ | with_reducible exact World.below_ext _ _ | with_reducible refine Below.ex ?_ _ | with_reducible refine Below.al ?_ _ | with_reducible refine Below.setCell ?_ (by simp) _ | with_reducible refine Below.drew ?_)))⟩) _ x y z nx rfl (by simp [go_sem, ↓IntWalk.iteOmega]) (by simp [go_sem, ↓IntWalk.iteOmega]) (by simp [go_sem, ↓IntWalk.iteOmega]) (by simp [go_sem, ↓IntWalk.iteOmega]) ?_
  intro g cap' w3 hg hb3 hk3
  have r0 := hk3.cell (k := w.heap.size) 0 (by simp; omega) (Ne.symm hbw)
  have r1 := hk3.cell (k := w.heap.size) 1 (by simp; omega) (Ne.symm hbw)
  have r2 := hk3.cell (k := w.heap.size) 2 (by simp; omega) (Ne.symm hbw)
  have c0 := hk3.cell (k := d) 0 (by simp; omega) (Ne.symm hbd)
  have c1 := hk3.cell (k := d) 1 (by simp; omega) (Ne.symm hbd)
  have c2 := hk3.cell (k := d) 2 (by simp; omega) (Ne.symm hbd)
  have c3 := hk3.cell (k := d) 3 (by simp; omega) (Ne.symm hbd)
  have cf1 := hk3.frozen (k := d) 1 (by simp; omega) (Ne.symm hbd)
  have cf2 := hk3.frozen (k := d) 2 (by simp; omega) (Ne.symm hbd)
  have cf := fun i => hk3.frozen (k := d) i (by simp; omega) (Ne.symm hbd)
  simp [go_sem, ↓IntWalk.iteOmega] at r0 r1 r2 c0 c1 c2 c3 cf cf1 cf2
  have hs3 := hk3.size
  simp at hs3
  refine hK.out _ _ (fun _ => by simp [go_sem, ↓IntWalk.iteOmega, *]) ?_
  clear hK K
  have hgl : g = bb ∧ lab bb = 2 ∨ w.heap.size ≤ g := by
    rcases hg with ⟨h1, h2⟩ | h1
    · rcases HBB.out with ⟨⟨h3, -⟩, -⟩ | ⟨-, -, h3⟩
      · rw [h3] at h2; cases h2
      · exact Or.inl ⟨h1, h3⟩
    · simp at h1; exact Or.inr (by omega)
  have hgd : g ≠ d := by rcases hgl with ⟨h1, -⟩ | h1 <;> omega
  have hkl : KeptL lab (fun x => x = 1 ∨ x = 2) w w3 := by
    refine ⟨hk3.os, hk3.tape, hk3.output, by omega, fun j hj hn => (hk3.block j (by simp; omega) (fun e => ?_)).trans ?_⟩
    · rcases HBB.out with ⟨-, h3⟩ | ⟨-, -, h3⟩
      · omega
      · exact hn (by rw [e, h3]; exact Or.inr rfl)
    · refine Below.block (B := w.heap.size) (w := w) ?_ j hj
      (repeat (first | with_reducible exact Below.rf _ | with_reducible exact World.below_ext _ _ | with_reducible refine Below.ex ?_ _ | with_reducible refine Below.al ?_ _ | with_reducible refine Below.setCell ?_ (by simp) _ | with_reducible refine Below.drew ?_))
  have HKL := hid hkl
  have HB3 := hid hb3
  have C0 := hid (c0.trans HH.out.c0)
  have C3 := hid (c3.trans HH.out.c3)
  have CF := hid (fun i (hi : i < 4) => (cf i).trans (HH.out.fz i hi))
  have HGL2 := hid (show g < w.heap.size → lab g = 2 from fun hlt => by rcases hgl with ⟨h1, h2⟩ | h1; rw [h1]; exact h2; omega)
  clear hk3 hkl hb3 c0 c3 cf hg hgl
  refine wpTr_one rfl rfl (fun K hK => ?_)
  go_simp
  refine hK.out _ _ (fun _ => by simp [go_sem, ↓IntWalk.iteOmega, *]) ?_
  clear hK K
  refine wpTr_one rfl rfl (fun K hK => ?_)
  go_simp
  refine hK.out _ _ (fun _ => by simp [go_sem, ↓IntWalk.iteOmega, *]) ?_
  clear hK K
  refine wpTr_one rfl rfl (fun K hK => ?_)
  go_simp
  refine hK.out _ _ (fun h => by cases h) ?_
  clear hK K
  refine wpTr_nil ?_
  refine NoPanic.normal ?_
  go_wp2
  go_loopw [4] (fun x' wr => ∃ (i : Nat) (L2 : List Ent), x' = .int .i64 (i) ∧ i < L.length + 1 ∧ L2.length = L.length + 1 ∧ L2.Perm (L ++ [(x, y, z, (nx : Int))]) ∧ upAt L2 i ∧ PX lab d tv mv g cap' nx L2 w wr) (fun x _ => (intOf x).toNat)
  case atStart =>
    refine ⟨L.length, L ++ [(x, y, z, (nx : Int))], by go_num, by omega, by simp, List.Perm.refl _, HUP.out, ?_, by simp; omega, by simp [go_sem, ↓IntWalk.iteOmega]; exact C0.out, by rw [List.length_append]; simp [go_sem, ↓IntWalk.iteOmega, *], by simp [go_sem, ↓IntWalk.iteOmega, *], by simp [go_sem, ↓IntWalk.iteOmega]; exact C3.out, fun i hi => by rw [World.frozen?_setCell, World.frozen?_setCell]; exact CF.out i hi, ?_⟩
    · repeat (with_reducible refine HX.kept ?_ ((KeptBut.refl _ _).set' _ _) hgd)
      exact HB3.out
    · exact (HKL.out.set (Or.inl HH.out.ld) _).set (Or.inl HH.out.ld) _
  case round =>
    clear c1 c2 cf1 cf2 r0 r1 r2 h1 h2 f1 f2
    obtain ⟨i, L2, rfl, hi, hln, hpm, hup, hP⟩ := hrel
    have HLN := hid hln
    have HPM := hid hpm
    have HUA := hid hup
    clear hpm hup
    have HP := hid hP
    have d2 := hP.lt
    have e2 := hP.c1
    rw [hln] at e2
    have lb := hP.hb.lt
    by_cases hz : 0 < i
    · obtain ⟨l, hl⟩ : ∃ l, (i - 1) / 2 = l := ⟨_, rfl⟩
      have hli : l < i := by omega
      have hl2 : l < L.length + 1 := by omega
      have hl3 : (l : Int) < (L.length : Int) + 1 := by omega
      have hi3 : (i : Int) < (L.length : Int) + 1 := by omega
      have HLL := hid hl
      have hq : Int.tdiv ((i : Int) - 1) 2 = l := by rw [Int.tdiv_eq_ediv_of_nonneg (by omega)]; omega
      obtain ⟨p0, p1, p2, p3, f0, f1, f2, f3⟩ := hP.hb.at (i := i) (by omega)
      obtain ⟨q0, q1, q2, q3, g0, g1, g2, g3⟩ := hP.hb.at (i := l) (by omega)
      have HBF := hid (bef_lt (at0 L2 i) (at0 L2 l))
      clear hP hl hln
      go_wp2
      first | with_reducible refine wp_region_ext2 (by kernel_rfl) (by kernel_rfl) ?_ | refine wp_region_ext (by kernel_rfl) (by kernel_rfl) ?_
      repeat (go_big_quiet_step ((go_at_call 64; exact Calls.ext_of (before_any _ _ _ _ _ _ _ _ _))))
      refine wpQuiet_nil ?_
      rintro w2 ⟨z, hw2⟩
      generalize hr : bef (at0 L2 i).1 (at0 L2 i).2.1 (at0 L2 i).2.2.2 (at0 L2 l).1 (at0 L2 l).2.1 (at0 L2 l).2.2.2 = r
      have HR := hid hr
      clear hr
      have hP2 : PX lab d tv mv g cap' nx L2 w w2 := by rw [hw2]; exact HP.out.below (by (repeat (first | with_reducible exact Below.rf _ | with_reducible exact World.below_ext _ _ | with_reducible refine Below.ex ?_ _ | with_reducible refine Below.al ?_ _ | with_reducible refine Below.setCell ?_ (by simp) _ | with_reducible refine Below.drew ?_)))
      have HP2 := hid hP2
      clear p0 p1 p2 p3 f0 f1 f2 f3 q0 q1 q2 q3 g0 g1 g2 g3 d2 e2 lb hw2
      have d2 := hP2.lt
      have e2 := hP2.c1
      rw [HLN.out] at e2
      have lb := hP2.hb.lt
      obtain ⟨p0, p1, p2, p3, f0, f1, f2, f3⟩ := hP2.hb.at (i := i) (by rw [HLN.out]; exact hi)
      obtain ⟨q0, q1, q2, q3, g0, g1, g2, g3⟩ := hP2.hb.at (i := l) (by rw [HLN.out]; exact hl2)
      clear hP2
      cases r with
      | false =>
        go_wp2
        refine bodyPost_end (v := .tuple #[]) (by simp [results, Tryz.results14]) rfl ?_
        exact HP2.out.done hgd HGL2.out HH.out.ld HPM.out (up_done HUA.out (by rw [HLL.out]; exact fun h => by have := HBF.out.2 h; rw [HR.out] at this; cases this))
      | true =>
        have HST := hid (up_step HUA.out hz (show i < L2.length by rw [HLN.out]; exact hi) (by rw [HLL.out]; exact HBF.out.1 HR.out))
        rw [HLL.out] at HST
        go_wp2
        refine wp_region_tree 25 (fun w' => w'.cell? ⟨d, 1, none⟩ = some (.slice (some ⟨g, 0, none⟩) (L.length + 1) cap') ∧ w'.cell? ⟨g, i * 4, none⟩ = some (.int .i64 ((at0 L2 i).1)) ∧ w'.cell? ⟨g, i * 4 + 1, none⟩ = some (.int .i64 ((at0 L2 i).2.1)) ∧ w'.cell? ⟨g, i * 4 + 2, none⟩ = some (.int .i64 ((at0 L2 i).2.2.1)) ∧ w'.cell? ⟨g, i * 4 + 3, none⟩ = some (.int .i64 ((at0 L2 i).2.2.2)) ∧ w'.cell? ⟨g, l * 4, none⟩ = some (.int .i64 ((at0 L2 l).1)) ∧ w'.cell? ⟨g, l * 4 + 1, none⟩ = some (.int .i64 ((at0 L2 l).2.1)) ∧ w'.cell? ⟨g, l * 4 + 2, none⟩ = some (.int .i64 ((at0 L2 l).2.2.1)) ∧ w'.cell? ⟨g, l * 4 + 3, none⟩ = some (.int .i64 ((at0 L2 l).2.2.2))) (.q 0 false (.q 1 false (.q 2 false (.q 3 true (.q 4 false (.q 5 false (.q 6 false (.q 7 false (.q 8 true (.q 9 false (.q 10 false (.q 11 false (.q 12 false (.q 13 true (.q 14 false (.q 15 false (.q 16 true (.q 17 false (.q 18 false (.q 19 false (.q 20 true (.q 21 false (.q 22 false (.q 23 true (.one 24 true (.one 25 false (.one 26 false (.one 27 false (.nil))))))))))))))))))))))))))))) (by kernel_rfl) (by kernel_rfl) (by kernel_rfl) ?_ ?_
        · simp [go_sem, ↓IntWalk.iteOmega, *]
        repeat (first | (refine wpTr_qf (v := ?_) rfl rfl ?_ ?_; rotate_left; focus (intro w; go_simp; (try (with_reducible rfl)); done); try simp only [List.getElem_toArray, List.getElem_cons_zero, List.getElem_cons_succ, Act.put, List.setIfInBounds_toArray, List.set_cons_zero, List.set_cons_succ]) | (refine wpTr_qt (v := ?_) rfl rfl ?_ ?_; rotate_left; focus (intro w hSw; (try dsimp only at hSw); go_simp; (try (with_reducible rfl)); done); try simp only [List.getElem_toArray, List.getElem_cons_zero, List.getElem_cons_succ, Act.put, List.setIfInBounds_toArray, List.set_cons_zero, List.set_cons_succ]))
        refine wpTr_one rfl rfl (fun K hK => ?_)
        go_simp
        refine hK.out _ _ (fun _ => by simp [go_sem, ↓IntWalk.iteOmega, *]) ?_
        clear hK K
        refine wpTr_one rfl rfl (fun K hK => ?_)
        go_simp
        refine hK.out _ _ (fun h => by cases h) ?_
        clear hK K
        generalize hW : World.drew (World.setCell (World.setCell (World.setCell (World.setCell w2 _ _) _ _) _ _) _ _) = w5
        have hP5 : PX lab d tv mv g cap' nx (L2.set i (at0 L2 l)) w w5 := by rw [← hW]; exact (HP2.out.put hgd HGL2.out (by rw [HLN.out]; exact hi) (at0 L2 l)).below (Below.rf _).drew
        have HP5 := hid hP5
        have lb5 := hP5.hb.lt
        obtain ⟨s0, s1, s2, s3, t0, t1, t2, t3⟩ := hP5.hb.at (i := l) (by rw [List.length_set, HLN.out]; exact hl2)
        clear hW hP5 p0 p1 p2 p3 q0 q1 q2 q3 f0 f1 f2 f3 g0 g1 g2 g3 lb d2 e2
        refine wpTr_one rfl rfl (fun K hK => ?_)
        go_simp
        refine hK.out _ _ (fun h => by cases h) ?_
        clear hK K
        refine wpTr_one rfl rfl (fun K hK => ?_)
        go_simp
        refine hK.out _ _ (fun h => by cases h) ?_
        clear hK K
        refine wpTr_nil ?_
        refine NoPanic.normal ?_
        go_wp2
        go_roundw
        case rel => exact ⟨l, swp L2 i l, rfl, hl2, by rw [swp_len]; exact HLN.out, (swp_perm L2 i l (by rw [HLN.out]; exact hi) (by rw [HLN.out]; exact hl2)).trans HPM.out, HST.out, HP5.out.put hgd HGL2.out (by rw [List.length_set, HLN.out]; exact hl2) (at0 L2 i)⟩
        case measure => simp [intOf]; omega
    · obtain rfl : i = 0 := by omega
      clear hP
      go_wp2
      refine bodyPost_end (v := .tuple #[]) (by simp [results, Tryz.results14]) rfl ?_
      exact HP.out.done hgd HGL2.out HH.out.ld HPM.out (up_done0 HUA.out)
end Go.Proofs.Qxb6500717aGreat
