/-
  The model's Step: the heap's push, length, reset.
-/
import Derived.Deep.RegionHeld3
import Derived.Test.Qxb6500717aGreatSt3
namespace Go.Proofs.Qxb6500717aGreat
open Go.RowKit
set_option linter.unusedSimpArgs false
set_option linter.unusedVariables false
set_option maxRecDepth 20000
set_option maxHeartbeats 4000000

/-- A step that touches heap or marks. -/
theorem st_fin3 {w w6 : World} {lab lab' : Nat → Nat} {m k : Nat} {M M' : ModS} {V' : Nat → Value} {c : Int} {vals : List Int} {v : Value} (h : ModX w lab m k M) (hS : M'.S = M.S) (hk : KeptL lab modL w w6)
    (hm : ∀ i, i < 7 → w6.cell? ⟨m, i, none⟩ = w.cell? ⟨m, i, none⟩) (hV : ∀ i, 7 ≤ i → i < 11 → w6.cell? ⟨m, i, none⟩ = some (V' i)) (hf : ∀ i, i < 11 → w6.frozen? ⟨m, i, none⟩ = false)
    (hl : ∀ j, j < w.heap.size → lab' j = lab j) (hl0 : ∀ j, w6.heap.size ≤ j → lab' j = 0) (hl1 : ∀ j, w.heap.size ≤ j → lab' j = 0 ∨ 31 ≤ lab' j)
    (h8 : V' 8 = .int .i64 (M'.px)) (h9 : V' 9 = .int .i64 (M'.ms)) (h7 : HpV w6 lab' (V' 7) M'.H) (h10 : MkV w6 lab' (V' 10) (k + 1) M'.ms M'.mf M'.mn) (hbk : M'.H.length ≤ k + 1 ∧ M'.px ≤ k + 1 ∧ M'.ms ≤ 4096) (hv : IntsAt w6 w.heap.size v vals) :
    stPost lab m k ((c, vals), M') w (.returned (.agg #[.int .u8 c, v])) w6 := by
  obtain ⟨V, hX, -⟩ := h.ex
  have lm := hX.rd.lt
  have s := hk.size
  obtain ⟨v5, a5, b5⟩ := hX.z5
  obtain ⟨v6, a6, b6⟩ := hX.z6
  have lz : ∀ {v : Value} {n : Nat} {vs : List Value}, LAz w (fun b => lab b = 31 ∨ w.heap.size ≤ b) v n vs → LAz w6 (fun b => lab' b = 31 ∨ w6.heap.size ≤ b) v n vs := fun hz => by
    refine (hz.mono (G' := fun b => lab' b = 31 ∨ w6.heap.size ≤ b) (fun j hj hg => ?_)).of s (fun j hg hj => ?_)
    · rcases hg with hg | hg
      · left; rw [hl j hj]; exact hg
      · omega
    · rcases hg with hg | hg
      · rw [hl j hj] at hg
        exact hk.block j hj (fun hn => by unfold modL at hn; omega)
      · omega
  refine ⟨v, lab', rfl, hv, ⟨(hl m lm).trans h.lm, hl0, ⟨V', ⟨⟨by omega, (hm 0 (by omega)).trans ?_, (hm 1 (by omega)).trans ?_, (hm 2 (by omega)).trans ?_, (hm 3 (by omega)).trans ?_, (hm 4 (by omega)).trans ?_, ⟨v5, (hm 5 (by omega)).trans a5, ?_⟩, ⟨v6, (hm 6 (by omega)).trans a6, ?_⟩, ?_, ?_, ?_⟩, hf, hV, ⟨v5, (hm 5 (by omega)).trans a5, ?_⟩, ⟨v6, (hm 6 (by omega)).trans a6, ?_⟩, fun hg => ?_, fun j hj => Or.inr hj⟩, h8, h9, h7, h10⟩, ?_, hbk⟩, hl, hl1, hk⟩
  all_goals (try rw [hS])
  · exact hX.rd.c0
  · exact hX.rd.c1
  · exact hX.rd.c2
  · exact hX.rd.c3
  · exact hX.rd.c4
  · exact (lz b5).lat
  · exact (lz b6).lat
  · exact hX.rd.bn
  · exact hX.rd.bt
  · exact hX.rd.bs
  · exact lz b5
  · exact lz b6
  · rcases hg with hg | hg
    · rw [hl m lm, h.lm] at hg; omega
    · omega
  · exact h.ft
def relab2 (lab : Nat → Nat) (n n' g x : Nat) (j : Nat) : Nat := if j < n then lab j else if j = g ∧ j < n' then x else if j < n' then 31 else 0
theorem relab2_old {lab : Nat → Nat} {n n' g x j : Nat} (h : j < n) : relab2 lab n n' g x j = lab j := if_pos h
theorem relab2_top {lab : Nat → Nat} {n n' g x j : Nat} (h : n ≤ n') (h2 : n' ≤ j) : relab2 lab n n' g x j = 0 := by
  unfold relab2; rw [if_neg (by omega), if_neg (by omega), if_neg (by omega)]
theorem relab2_new {lab : Nat → Nat} {n n' g x j : Nat} (h : n ≤ j) (hx : 31 ≤ x) : relab2 lab n n' g x j = 0 ∨ 31 ≤ relab2 lab n n' g x j := by
  unfold relab2
  rw [if_neg (by omega)]
  split
  · exact Or.inr hx
  · split
    · exact Or.inr (Nat.le_refl _)
    · exact Or.inl rfl
theorem relab2_g {lab : Nat → Nat} {n n' g x : Nat} (h : n ≤ g) (h2 : g < n') : relab2 lab n n' g x g = x := by
  unfold relab2; rw [if_neg (by omega), if_pos ⟨rfl, h2⟩]

/-- 'append' onto the model's entries. -/
theorem wp_mpX {w : World} {o : Oper} {a : Act} {K : Act → World → Prop} {Q : Exit → Act → World → Prop} (hgd : o.guard = none) (s x : Operand)
    (ho : o.op = .call { callee := .builtin .append, args := #[s, x], argTypes := #[29, 29] })
    (ao : Option Addr) (L : List Ent) (n cap bb : Nat) (hLn : L.length = n) (hs : a.eval s = .slice ao n cap) (hn : n ≤ 1000000) (hnc : n ≤ cap) (hb : (ao = none ∧ cap = 0) ∨ (ao = some ⟨bb, 0, none⟩ ∧ HX w bb cap L))
    (b2 : Nat) (y0 y1 y2 y3 : Int) (hx : a.eval x = .slice (some ⟨b2, 0, none⟩) 1 1) (h0 : w.cell? ⟨b2, 0, none⟩ = some (.int .i64 (y0))) (h1 : w.cell? ⟨b2, 1, none⟩ = some (.int .i64 (y1))) (h2 : w.cell? ⟨b2, 2, none⟩ = some (.int .i64 (y2))) (h3 : w.cell? ⟨b2, 3, none⟩ = some (.int .i64 (y3)))
    (h : ∀ g cap' w', (g = bb ∧ ao = some ⟨bb, 0, none⟩ ∨ w.heap.size ≤ g) → HX w' g cap' (L ++ [(y0, y1, y2, y3)]) → KeptBut bb w w' → K (a.put o.dst (.slice (some ⟨g, 0, none⟩) (n + 1) cap')) w') : Oper.wp Tryz.prog o a w K Q := by
  have hnews : ∀ (j : Nat) (u : Value), [.int .i64 (y0), .int .i64 (y1), .int .i64 (y2), .int .i64 (y3)][j]? = some u → w.cell? ⟨b2, 0 + j, none⟩ = some u := by
    intro j u hj
    have hj2 := (List.getElem?_eq_some_iff.1 hj).1
    simp at hj2
    rcases (by omega : j = 0 ∨ j = 1 ∨ j = 2 ∨ j = 3) with rfl | rfl | rfl | rfl <;> simp at hj <;> subst hj <;> simpa
  have hone : ∀ u ∈ ([.int .i64 (y0), .int .i64 (y1), .int .i64 (y2), .int .i64 (y3)] : List Value), u.oneCell' = true := by simp [Value.oneCell']
  have hrow : erow L ++ [.int .i64 (y0), .int .i64 (y1), .int .i64 (y2), .int .i64 (y3)] = erow (L ++ [(y0, y1, y2, y3)]) := by rw [erow_app]; rfl
  have fresh : ∀ v' w', w'.ownsRow w.heap.size 82 4 v' (n + 1) (erow (L ++ [(y0, y1, y2, y3)])) → Below w.heap.size w w' → K (a.put o.dst v') w' := by
    intro v' w' hown hB
    obtain ⟨h1, h2⟩ := hown
    rcases h2 with ⟨_, h2⟩ | ⟨g, cap', cur, hv, hg, hh, hnc, _, hsz, ht⟩
    · omega
    · rw [hv]
      refine h g cap' w' (Or.inr hg) ⟨(Array.getElem?_eq_some_iff.1 hh).1, fun j hj => ?_, fun j hj => ?_, fun j u hu => ?_, by rw [erow_len, List.length_append, hLn]; simp; omega⟩ ⟨hB.os, hB.tape, hB.output, hB.size, fun k hk _ => hB.block k hk⟩
      · rw [cell_of_row _ _ j cur 82 (0, 0) hh, Array.getElem?_eq_getElem (by omega)]; rfl
      · unfold World.frozen?; simp only [hh]; simp
      · rw [cell_of_row _ _ j cur 82 (0, 0) hh]
        rw [← ht, List.getElem?_take] at hu
        split at hu
        · simpa using hu
        · cases hu
  obtain ⟨i, hi, hz0, hz1, hz2⟩ := info_parts (P := Tryz.prog) (e := 82) (z := .agg #[.int .i64 (0), .int .i64 (0), .int .i64 (0), .int .i64 (0)]) (size := 4) (bytes := 32) (by kernel_rfl)
  rcases hb with ⟨rfl, rfl⟩ | ⟨rfl, hb⟩
  · obtain rfl : n = 0 := by omega
    have := step_app (w := w) (ops := #[]) (E := True) (K := K) (Q := Q) hgd s x 29 ho w.heap.size 82 (.agg #[.int .i64 (0), .int .i64 (0), .int .i64 (0), .int .i64 (0)]) 4 32 Tryz.underlying29 (by kernel_rfl) rfl (by decide) _ 0 [] hs ⟨rfl, Or.inl ⟨rfl, rfl⟩⟩ b2 0 1 1 [.int .i64 (y0), .int .i64 (y1), .int .i64 (y2), .int .i64 (y3)] hx rfl hnews hone (by omega) (by omega) (Nat.le_refl _) (fun v' w' hown hB => fresh v' w' (by rw [show L = [] from List.length_eq_zero_iff.1 hLn]; exact hown) hB)
    rwa [if_pos (by simp [Region.wanted, hgd])] at this
  · have p1 : Pad w bb (4 * cap) (erow L) := hb
    have p2 : (erow L).length = 4 * n := by rw [erow_len, hLn]
    by_cases hroom : n + 1 ≤ cap
    · have := step_append_room (w := w) (ops := #[]) (E := True) (K := K) (Q := Q) hgd s x 29 ho 82 i 4 Tryz.underlying29 hi hz1 bb 0 n cap hs ⟨b2, 0, none⟩ 1 1 [.int .i64 (y0), .int .i64 (y1), .int .i64 (y2), .int .i64 (y3)] hx rfl (fun j u hj => by rw [Addr.add_lit]; exact hnews j u hj) hone hroom (fun j hj => by
        simp at hj
        rw [Nat.zero_add]
        exact ⟨p1.has _ (by omega), p1.fz _ (by omega)⟩) (by
        have hp := p1.push [.int .i64 (y0), .int .i64 (y1), .int .i64 (y2), .int .i64 (y3)] (by simp; omega)
        rw [p2, hrow] at hp
        rw [Nat.zero_add, Nat.mul_comm]
        exact h bb cap _ (Or.inl ⟨rfl, rfl⟩) hp (setCells_kept bb _ _ w))
      rwa [if_pos (by simp [Region.wanted, hgd])] at this
    · obtain ⟨v', w', hrun, r1, r2⟩ := run_append_arg_grows (P := Tryz.prog) w 29 o.type 82 i (.agg #[.int .i64 (0), .int .i64 (0), .int .i64 (0), .int .i64 (0)]) 4 32 Tryz.underlying29 hi hz0 hz1 hz2 rfl (by omega) ⟨bb, 0, none⟩ n cap (erow L) (by omega) (fun j u hj => by rw [Addr.add_lit, Nat.zero_add]; exact p1.is j u hj) ⟨b2, 0, none⟩ 1 1 [.int .i64 (y0), .int .i64 (y1), .int .i64 (y2), .int .i64 (y3)] rfl (fun j u hj => by rw [Addr.add_lit]; exact hnews j u hj) (by omega) (by simp only [maxLen]; omega) (by omega)
      unfold Oper.wp
      simp [execOp, ho, resolve, invoke, builtin, hs, hx, hrun, Result.andThen]
      exact fresh v' w' (by rw [← hrow]; exact r1) ((Below.refl w.heap.size w).grown r2 (Nat.le_refl _) (fun k hk => by cases hk))


theorem st_push (A B C D : Int) (ao : Option Addr) (n cap : Nat) (lab : Nat → Nat) (m k : Nat) (M : ModS) (w : World) (h : ModX w lab m k M) (hk9 : k ≤ 900000) : Calls Tryz.prog 8 #[.pointer (some ⟨m, 0, none⟩), .agg #[.int .i64 (14), .int .i64 (A), .int .i64 (B), .int .i64 (C), .int .i64 (D), .slice ao n cap]] w (stPost lab m k (((0, []), { M with H := M.H ++ [(A, B, C, (M.px : Int))], px := M.px + 1 })) w) := by
  have HH := hid h
  obtain ⟨V, hO, h8, h9, h7, h10⟩ := h.opens
  have HO := hid hO
  have H8 := hid h8
  have H9 := hid h9
  have H10 := hid h10
  have M0 := hO w (Below.rf _)
  have c7 := M0.cv 7 (by omega) (by omega)
  have c8 := M0.cv 8 (by omega) (by omega)
  simp only at c7 c8
  rw [h8] at c8
  have H7 := hid h7
  obtain ⟨ao7, cap7, e7, h5, h6⟩ := h7
  rw [e7] at c7
  have H6 := hid h6
  have E7 := hid e7
  have bk := h.bk
  have f7 := M0.fz 7 (by omega)
  have f8 := M0.fz 8 (by omega)
  have CV := hid M0.cv
  have FZ := hid M0.fz
  have lt := M0.rd.lt
  have LM := hid h.lm
  clear h hO h8 h9 h10 M0 h6 e7
  obtain ⟨bb, hbb, hbd, hbw, hbw2⟩ : ∃ bb, (((ao7 = none ∧ cap7 = 0) ∧ w.heap.size + 1 < bb) ∨ (ao7 = some ⟨bb, 0, none⟩ ∧ HX w bb cap7 M.H ∧ lab bb = 32)) ∧ bb ≠ m ∧ bb ≠ w.heap.size ∧ bb ≠ w.heap.size + 1 := by
    rcases H6.out with h6 | ⟨b, e1, e2, e4⟩
    · exact ⟨w.heap.size + 2, Or.inl ⟨h6, by omega⟩, by omega, by omega, by omega⟩
    · exact ⟨b, Or.inr ⟨e1, e4, e2⟩, fun e => by have := LM.out; rw [← e, e2] at this; omega, by have := e4.lt; omega, by have := e4.lt; omega⟩
  have HBB := hid hbb
  clear hbb
  go_enter Tryz.func8, Tryz.ntmps8
  go_wp2
  refine wp_region_tree 20 (fun w' => w'.cell? ⟨m, 7, none⟩ = some (.slice ao7 M.H.length cap7) ∧ w'.cell? ⟨m, 8, none⟩ = some (.int .i64 (M.px)) ∧ w'.cell? ⟨w.heap.size, 1, none⟩ = some (.int .i64 (A)) ∧ w'.cell? ⟨w.heap.size, 2, none⟩ = some (.int .i64 (B)) ∧ w'.cell? ⟨w.heap.size, 3, none⟩ = some (.int .i64 (C))) (.q 0 false (.q 1 false (.q 2 false (.q 3 false (.q 4 true (.q 5 false (.q 6 true (.q 7 false (.q 8 true (.q 9 false (.q 10 true (.q 11 false (.q 12 false (.q 13 false (.q 14 true (.q 15 false (.one 16 true (.one 17 true (.one 18 true (.one 19 true (.one 20 false (.nil)))))))))))))))))))))) (by kernel_rfl) (by kernel_rfl) (by kernel_rfl) ?_ ?_
  · simp [go_sem, ↓IntWalk.iteOmega, *]
  repeat (first | (refine wpTr_qf (v := ?_) rfl rfl ?_ ?_; rotate_left; focus (intro w; go_simp; (try (with_reducible rfl)); done); try simp only [List.getElem_toArray, List.getElem_cons_zero, List.getElem_cons_succ, Act.put, List.setIfInBounds_toArray, List.set_cons_zero, List.set_cons_succ]) | (refine wpTr_qt (v := ?_) rfl rfl ?_ ?_; rotate_left; focus (intro w hSw; (try dsimp only at hSw); go_simp; (try (with_reducible rfl)); done); try simp only [List.getElem_toArray, List.getElem_cons_zero, List.getElem_cons_succ, Act.put, List.setIfInBounds_toArray, List.set_cons_zero, List.set_cons_succ]))
  refine wpTr_one rfl rfl (fun K hK => ?_)
  go_simp
  refine hK.out _ _ (fun _ => by simp [go_sem, ↓IntWalk.iteOmega, *]) ?_
  clear hK K
  refine wpTr_one rfl rfl (fun K hK => ?_)
  refine wp_mpX rfl _ _ rfl ao7 M.H M.H.length cap7 bb rfl rfl (by omega) h5 (by rcases HBB.out with h | h; exact Or.inl h.1; exact Or.inr ⟨h.1, h.2.1.below (by (repeat (first | with_reducible exact Below.rf _ | with_reducible exact World.below_ext _ _ | with_reducible refine Below.ex ?_ _ | with_reducible refine Below.al ?_ _ | with_reducible refine Below.setCell ?_ (by simp) _ | with_reducible refine Below.drew ?_)))⟩) _ A B C M.px rfl (by simp [go_sem, ↓IntWalk.iteOmega]) (by simp [go_sem, ↓IntWalk.iteOmega]) (by simp [go_sem, ↓IntWalk.iteOmega]) (by simp [go_sem, ↓IntWalk.iteOmega]) ?_
  intro g cap' w3 hg hb3 hk3
  have r1 := hk3.cell (k := w.heap.size) 1 (by simp <;> omega) (Ne.symm hbw)
  have r2 := hk3.cell (k := w.heap.size) 2 (by simp <;> omega) (Ne.symm hbw)
  have r3 := hk3.cell (k := w.heap.size) 3 (by simp <;> omega) (Ne.symm hbw)
  have x0 := hk3.cell (k := w.heap.size + 1) 0 (by simp <;> omega) (Ne.symm hbw2)
  have x1 := hk3.cell (k := w.heap.size + 1) 1 (by simp <;> omega) (Ne.symm hbw2)
  have x2 := hk3.frozen (k := w.heap.size + 1) 0 (by simp <;> omega) (Ne.symm hbw2)
  have x3 := hk3.frozen (k := w.heap.size + 1) 1 (by simp <;> omega) (Ne.symm hbw2)
  have d7 := hk3.cell (k := m) 7 (by simp <;> omega) (Ne.symm hbd)
  have d8 := hk3.cell (k := m) 8 (by simp <;> omega) (Ne.symm hbd)
  have df7 := hk3.frozen (k := m) 7 (by simp <;> omega) (Ne.symm hbd)
  have df8 := hk3.frozen (k := m) 8 (by simp <;> omega) (Ne.symm hbd)
  have dc := fun i => hk3.cell (k := m) i (by simp <;> omega) (Ne.symm hbd)
  have df := fun i => hk3.frozen (k := m) i (by simp <;> omega) (Ne.symm hbd)
  simp [go_sem, ↓IntWalk.iteOmega] at r1 r2 r3 x0 x1 x2 x3 d7 d8 df7 df8 dc df
  rw [c7] at d7
  rw [c8] at d8
  rw [f7] at df7
  rw [f8] at df8
  have hs3 := hk3.size
  simp at hs3
  refine hK.out _ _ (fun _ => by simp [go_sem, ↓IntWalk.iteOmega, *]) ?_
  clear hK K
  have hgl : g = bb ∧ lab bb = 32 ∨ w.heap.size + 1 + 1 ≤ g := by
    rcases hg with ⟨h1, h2⟩ | h1
    · rcases HBB.out with ⟨⟨h3, -⟩, -⟩ | ⟨-, -, h3⟩
      · rw [h3] at h2; cases h2
      · exact Or.inl ⟨h1, h3⟩
    · simp at h1; exact Or.inr (by omega)
  have hgd : g ≠ m := by rcases hgl with ⟨h1, -⟩ | h1 <;> omega
  have hkl : KeptL lab (fun x => x = 30 ∨ x = 32) w w3 := by
    refine ⟨hk3.os, hk3.tape, hk3.output, by omega, fun j hj hn => (hk3.block j (by simp <;> omega) (fun e => ?_)).trans ?_⟩
    · rcases HBB.out with ⟨-, h3⟩ | ⟨-, -, h3⟩
      · omega
      · exact hn (by rw [e, h3]; exact Or.inr rfl)
    · refine Below.block (B := w.heap.size) (w := w) ?_ j hj
      (repeat (first | with_reducible exact Below.rf _ | with_reducible exact World.below_ext _ _ | with_reducible refine Below.ex ?_ _ | with_reducible refine Below.al ?_ _ | with_reducible refine Below.setCell ?_ (by simp) _ | with_reducible refine Below.drew ?_))
  have HKL := hid hkl
  have HB3 := hid hb3
  have DC := hid dc
  have DF := hid (fun i (hi : i < 11) => (df i).trans (FZ.out i hi))
  have HGL := hid hgl
  have hgb : g ≠ w.heap.size + 1 := by rcases hgl with ⟨h1, -⟩ | h1 <;> omega
  clear hk3 hkl hb3 dc df hg hgl
  refine wpTr_one rfl rfl (fun K hK => ?_)
  go_simp
  refine hK.out _ _ (fun _ => by simp [go_sem, ↓IntWalk.iteOmega, *]) ?_
  clear hK K
  refine wpTr_one rfl rfl (fun K hK => ?_)
  go_simp
  refine hK.out _ _ (fun _ => by simp [go_sem, ↓IntWalk.iteOmega, *]) ?_
  clear hK K
  refine wpTr_one rfl rfl (fun K hK => ?_)
  go_simp
  refine hK.out _ _ (fun h => by cases h) ?_
  clear hK K
  refine wpTr_nil ?_
  refine NoPanic.normal ?_
  clear c7 c8 f7 f8
  go_wp2_with (go_at_call 43; refine (mok_any _ ⟨_, _, _, rfl⟩ _).mono ?_; rintro e w' ⟨rfl, z9, rfl⟩)
  refine bodyPost_ret (v := .agg #[.int .u8 0, .slice none 0 0]) (by simp [results, Tryz.results8, go_sem, ↓IntWalk.iteOmega, *]) rfl ?_
  have hg6 : g < w3.heap.size := HB3.out.lt
  have K6 := ((((HKL.out.set (b := m) (i := 7) (Or.inl LM.out) (.slice (some ⟨g, 0, none⟩) (M.H.length + 1) cap')).set (b := m) (i := 8) (Or.inl LM.out) (.int .i64 ((M.px : Int) + 1))).setF (b := w.heap.size + 1) (i := 0) (by omega) (.int .u8 0)).setF (b := w.heap.size + 1) (i := 1) (by omega) (.slice none 0 0)).ex z9
  have hgn : ∀ n', g < n' → relab2 lab w.heap.size n' g 32 g = 32 := fun n' hn' => by
    rcases HGL.out with ⟨h1, h2⟩ | h1
    · rcases HBB.out with ⟨-, h3⟩ | ⟨-, h3, -⟩
      · have := hk9
        by_cases hgw : g < w.heap.size
        · rw [relab2_old hgw, h1]; exact h2
        · exact relab2_g (by omega) hn'
      · rw [relab2_old (by rw [h1]; exact h3.lt), h1]; exact h2
    · exact relab2_g (by omega) hn'
  refine st_fin3 (V' := fun i => if i = 7 then .slice (some ⟨g, 0, none⟩) (M.H.length + 1) cap' else if i = 8 then .int .i64 ((M.px : Int) + 1) else V i) (lab' := relab2 lab w.heap.size (World.heap _).size g 32) HH.out rfl (K6.mono (fun x hx => by unfold modL; omega)) (fun i hi => ?_) (fun i h1 h2 => ?_) (fun i hi => ?_) (fun j hj => relab2_old hj) (fun j hj => relab2_top K6.size hj) (fun j hj => relab2_new hj (by omega)) ?_ ?_ ?_ ?_ ?_ (IntsAt.nil _ _)
  · simp [go_sem, ↓IntWalk.iteOmega]
    exact DC.out i
  · rcases (by omega : i = 7 ∨ i = 8 ∨ i = 9 ∨ i = 10) with rfl | rfl | rfl | rfl
    · simp [go_sem, ↓IntWalk.iteOmega, *]
    · simp [go_sem, ↓IntWalk.iteOmega, *]
    · simp [go_sem, ↓IntWalk.iteOmega]
      exact (DC.out 9).trans (CV.out 9 (by omega) (by omega))
    · simp [go_sem, ↓IntWalk.iteOmega]
      exact (DC.out 10).trans (CV.out 10 (by omega) (by omega))
  · simp [go_sem, ↓IntWalk.iteOmega]
    exact DF.out i hi
  · simp
  · simpa using H9.out
  · refine ⟨some ⟨g, 0, none⟩, cap', by simp, by simpa using HB3.out.le, Or.inr ⟨g, rfl, hgn _ (by simp; omega), ?_⟩⟩
    refine HX.below (w := World.setCell (World.setCell (World.setCell (World.setCell w3 _ _) _ _) _ _) _ _) ?_ (by (repeat (first | with_reducible exact Below.rf _ | with_reducible exact World.below_ext _ _ | with_reducible refine Below.ex ?_ _ | with_reducible refine Below.al ?_ _ | with_reducible refine Below.setCell ?_ (by simp) _ | with_reducible refine Below.drew ?_)))
    refine HX.kept (HX.kept (HX.kept (HX.kept HB3.out ((KeptBut.refl _ _).set' _ _) hgd) ((KeptBut.refl _ _).set' _ _) hgd) ((KeptBut.refl _ _).set' _ _) hgb) ((KeptBut.refl _ _).set' _ _) hgb
  · exact H10.out.of (Nat.le_succ k) K6.size (fun j hj hl => (relab2_old hj).trans hl) (fun j hj hl => K6.block j hj (by omega))
  · simp
    omega
end Go.Proofs.Qxb6500717aGreat
