/-
  Push, its shape only.
-/
import Derived.Test.Qxb6500717aGreatHp2
namespace Go.Proofs.Qxb6500717aGreat
open Go.RowKit
set_option linter.unusedSimpArgs false
set_option linter.unusedVariables false
structure PI (lab : Nat → Nat) (d : Nat) (tv mv : Value) (g n cap nx : Nat) (w wr : World) : Prop where
  hb : HB wr g cap (n + 1)
  lt : d < wr.heap.size
  c0 : wr.cell? ⟨d, 0, none⟩ = some tv
  c1 : wr.cell? ⟨d, 1, none⟩ = some (.slice (some ⟨g, 0, none⟩) (n + 1) cap)
  c2 : wr.cell? ⟨d, 2, none⟩ = some (.int .i64 ((nx + 1 : Nat)))
  c3 : wr.cell? ⟨d, 3, none⟩ = some mv
  fz : ∀ i, i < 4 → wr.frozen? ⟨d, i, none⟩ = false
  kl : KeptL lab (fun x => x = 1 ∨ x = 2) w wr
section
variable {lab : Nat → Nat} {d : Nat} {tv mv : Value} {g n cap nx : Nat} {w wr w' : World}
theorem PI.below (h : PI lab d tv mv g n cap nx w wr) (hb : Below wr.heap.size wr w') : PI lab d tv mv g n cap nx w w' := by
  have e := hb.block d h.lt
  have ce : ∀ i, w'.cell? ⟨d, i, none⟩ = wr.cell? ⟨d, i, none⟩ := fun i => World.cell?_of_block e
  exact ⟨h.hb.below hb, Nat.lt_of_lt_of_le h.lt hb.size, (ce 0).trans h.c0, (ce 1).trans h.c1, (ce 2).trans h.c2, (ce 3).trans h.c3, fun i hi => (World.frozen?_of_block e).trans (h.fz i hi), h.kl.trans (KeptL.of_below hb)⟩
theorem PI.put1 (h : PI lab d tv mv g n cap nx w wr) (hgd : g ≠ d) (hgl : g < w.heap.size → lab g = 2) {i : Nat} (hi : i < 4 * (n + 1)) (x : Int) : PI lab d tv mv g n cap nx w (wr.setCell ⟨g, i, none⟩ (.int .i64 (x))) := by
  have ce : ∀ j, (wr.setCell ⟨g, i, none⟩ (.int .i64 (x))).cell? ⟨d, j, none⟩ = wr.cell? ⟨d, j, none⟩ := fun j => World.cell?_setCell_other _ _ _ _ (fun e => hgd (congrArg Addr.block e))
  refine ⟨h.hb.put1 hi x, by simpa using h.lt, (ce 0).trans h.c0, (ce 1).trans h.c1, (ce 2).trans h.c2, (ce 3).trans h.c3, fun j hj => by rw [World.frozen?_setCell]; exact h.fz j hj, h.kl.os, h.kl.tape, h.kl.output, by simpa using h.kl.size, fun j hj hn => ?_⟩
  rw [Below.heap_setCell _ _ _ _ (fun e => hn (by have e2 : j = g := e; rw [e2, hgl (by omega)]; exact Or.inr rfl))]
  exact h.kl.block j hj hn
theorem PI.put (h : PI lab d tv mv g n cap nx w wr) (hgd : g ≠ d) (hgl : g < w.heap.size → lab g = 2) {i : Nat} (hi : i < n + 1) (x0 x1 x2 x3 : Int) : PI lab d tv mv g n cap nx w ((((wr.setCell ⟨g, i * 4, none⟩ (.int .i64 (x0))).setCell ⟨g, i * 4 + 1, none⟩ (.int .i64 (x1))).setCell ⟨g, i * 4 + 2, none⟩ (.int .i64 (x2))).setCell ⟨g, i * 4 + 3, none⟩ (.int .i64 (x3))) :=
  (((h.put1 hgd hgl (by omega) x0).put1 hgd hgl (by omega) x1).put1 hgd hgl (by omega) x2).put1 hgd hgl (by omega) x3
theorem PI.done (h : PI lab d tv mv g n cap nx w wr) (hgd : g ≠ d) (hgl : g < w.heap.size → lab g = 2) (hd : lab d = 1) {k : Nat} (hn : n ≤ k) (hx : nx ≤ k) : hpPost lab d tv mv (k + 1) (fun e => e = .returned (.tuple #[])) w (.returned (.tuple #[])) wr := by
  refine ⟨rfl, upd lab g 2, ⟨?_, h.lt, h.c0, h.c3, h.fz, _, n + 1, cap, nx + 1, h.c1, h.c2, by omega, by omega, h.hb.le, Or.inr ⟨g, rfl, upd_at _ _ _, by have := h.hb.le; omega, h.hb⟩⟩, fun j hj => ?_, h.kl⟩
  · rw [upd_ne _ _ (Ne.symm hgd)]; exact hd
  · by_cases hjg : j = g
    · subst hjg
      rw [upd_at, hgl hj]
    · rw [upd_ne _ _ hjg]
end
set_option maxRecDepth 20000 in
set_option maxHeartbeats 4000000 in
theorem hpush_any (d : Nat) (lab : Nat → Nat) (tv mv : Value) (k : Nat) (x y z : Int) (w : World) (h : DAt w lab d tv mv k) (hk : k ≤ 900000) : Calls Tryz.prog 14 #[.pointer (some ⟨d, 1, none⟩), .agg #[.int .i64 (x), .int .i64 (y), .int .i64 (z)]] w (hpPost lab d tv mv (k + 1) (fun e => e = .returned (.tuple #[])) w) := by
  have HH := hid h
  obtain ⟨ao, n, cap, nx, h1, h2, h3, h4, h5, h6⟩ := h.hp
  have l1 := h.lt
  have f1 := h.fz 1 (by omega)
  have f2 := h.fz 2 (by omega)
  obtain ⟨bb, hbb, hbd, hbw⟩ : ∃ bb, (((ao = none ∧ cap = 0) ∧ w.heap.size < bb) ∨ (ao = some ⟨bb, 0, none⟩ ∧ HB w bb cap n ∧ lab bb = 2)) ∧ bb ≠ d ∧ bb ≠ w.heap.size := by
    rcases h6 with h6 | ⟨b, e1, e2, e3, e4⟩
    · exact ⟨w.heap.size + 1, Or.inl ⟨h6, by omega⟩, by omega, by omega⟩
    · exact ⟨b, Or.inr ⟨e1, e4, e2⟩, fun e => by have := h.ld; rw [← e, e2] at this; omega, by have := e4.lt; omega⟩
  have HBB := hid hbb
  clear h h6 hbb
  go_enter Tryz.func14, Tryz.ntmps14
  go_wp2
  refine wp_region_tree 15 (fun w' => w'.cell? ⟨d, 1, none⟩ = some (.slice ao n cap) ∧ w'.cell? ⟨d, 2, none⟩ = some (.int .i64 (nx)) ∧ w'.cell? ⟨w.heap.size, 0, none⟩ = some (.int .i64 (x)) ∧ w'.cell? ⟨w.heap.size, 1, none⟩ = some (.int .i64 (y)) ∧ w'.cell? ⟨w.heap.size, 2, none⟩ = some (.int .i64 (z))) (.q 0 false (.q 1 false (.q 2 false (.q 3 false (.q 4 true (.q 5 true (.q 6 false (.q 7 false (.q 8 false (.q 9 true (.q 10 false (.one 11 true (.one 12 true (.one 13 true (.one 14 true (.one 15 false (.nil))))))))))))))))) (by kernel_rfl) (by kernel_rfl) (by kernel_rfl) ?_ ?_
  · simp [go_sem, ↓IntWalk.iteOmega, *]
  repeat (first | (refine wpTr_qf (v := ?_) rfl rfl ?_ ?_; rotate_left; focus (intro w; go_simp; (try (with_reducible rfl)); done); try simp only [List.getElem_toArray, List.getElem_cons_zero, List.getElem_cons_succ, Act.put, List.setIfInBounds_toArray, List.set_cons_zero, List.set_cons_succ]) | (refine wpTr_qt (v := ?_) rfl rfl ?_ ?_; rotate_left; focus (intro w hSw; (try dsimp only at hSw); go_simp; (try (with_reducible rfl)); done); try simp only [List.getElem_toArray, List.getElem_cons_zero, List.getElem_cons_succ, Act.put, List.setIfInBounds_toArray, List.set_cons_zero, List.set_cons_succ]))
  refine wpTr_one rfl rfl (fun K hK => ?_)
  go_simp
  refine hK.out _ _ (fun _ => by simp [go_sem, ↓IntWalk.iteOmega, *]) ?_
  clear hK K
  refine wpTr_one rfl rfl (fun K hK => ?_)
  refine wp_hp rfl _ _ rfl ao n cap bb rfl (by omega) h5 (by rcases HBB.out with h | h; exact Or.inl h.1; exact Or.inr ⟨h.1, h.2.1.below (by (repeat (first | with_reducible exact Below.rf _ | with_reducible exact World.below_ext _ _ | with_reducible refine Below.ex ?_ _ | with_reducible refine Below.al ?_ _ | with_reducible refine Below.setCell ?_ (by simp) _ | with_reducible refine Below.drew ?_)))⟩) _ x y z nx rfl (by simp [go_sem, ↓IntWalk.iteOmega]) (by simp [go_sem, ↓IntWalk.iteOmega]) (by simp [go_sem, ↓IntWalk.iteOmega]) (by simp [go_sem, ↓IntWalk.iteOmega]) ?_
  intro g cap' w3 hg hb3 hk3
  have r0 := hk3.cell (k := w.heap.size) 0 (by simp; omega) (Ne.symm hbw)
  have r1 := hk3.cell (k := w.heap.size) 1 (by simp; omega) (Ne.symm hbw)
  have r2 := hk3.cell (k := w.heap.size) 2 (by simp; omega) (Ne.symm hbw)
  have c0 := hk3.cell (k := d) 0 (by simp; omega) (Ne.symm hbd)
  have c1 := hk3.cell (k := d) 1 (by simp; omega) (Ne.symm hbd)
  have c2 := hk3.cell (k := d) 2 (by simp; omega) (Ne.symm hbd)
  have c3 := hk3.cell (k := d) 3 (by simp; omega) (Ne.symm hbd)
  have cf1 := hk3.frozen (k := d) 1 (by simp; omega) (Ne.symm hbd)
  have cf2 := hk3.frozen (k := d) 2 (by simp; omega) (Ne.symm hbd)
  have cf := fun i => hk3.frozen (k := d) i (by simp; omega) (Ne.symm hbd)
  simp [go_sem, ↓IntWalk.iteOmega] at r0 r1 r2 c0 c1 c2 c3 cf cf1 cf2
  have hs3 := hk3.size
  simp at hs3
  refine hK.out _ _ (fun _ => by simp [go_sem, ↓IntWalk.iteOmega, *]) ?_
  clear hK K
  have hgl : g = bb ∧ lab bb = 2 ∨ w.heap.size ≤ g := by
    rcases hg with ⟨h1, h2⟩ | h1
    · rcases HBB.out with ⟨⟨h3, -⟩, -⟩ | ⟨-, -, h3⟩
      · rw [h3] at h2; cases h2
      · exact Or.inl ⟨h1, h3⟩
    · simp at h1; exact Or.inr (by omega)
  have hgd : g ≠ d := by rcases hgl with ⟨h1, -⟩ | h1 <;> omega
  have hkl : KeptL lab (fun x => x = 1 ∨ x = 2) w w3 := by
    refine ⟨hk3.os, hk3.tape, hk3.output, by omega, fun j hj hn => (hk3.block j (by simp; omega) (fun e => ?_)).trans ?_⟩
    · rcases HBB.out with ⟨-, h3⟩ | ⟨-, -, h3⟩
      · omega
      · exact hn (by rw [e, h3]; exact Or.inr rfl)
    · refine Below.block (B := w.heap.size) (w := w) ?_ j hj
      (repeat (first | with_reducible exact Below.rf _ | with_reducible exact World.below_ext _ _ | with_reducible refine Below.ex ?_ _ | with_reducible refine Below.al ?_ _ | with_reducible refine Below.setCell ?_ (by simp) _ | with_reducible refine Below.drew ?_))
  have HKL := hid hkl
  have HB3 := hid hb3
  have C0 := hid (c0.trans HH.out.c0)
  have C3 := hid (c3.trans HH.out.c3)
  have CF := hid (fun i (hi : i < 4) => (cf i).trans (HH.out.fz i hi))
  have HGL2 := hid (show g < w.heap.size → lab g = 2 from fun hlt => by rcases hgl with ⟨h1, h2⟩ | h1; rw [h1]; exact h2; omega)
  clear hk3 hkl hb3 c0 c3 cf hg hgl
  refine wpTr_one rfl rfl (fun K hK => ?_)
  go_simp
  refine hK.out _ _ (fun _ => by simp [go_sem, ↓IntWalk.iteOmega, *]) ?_
  clear hK K
  refine wpTr_one rfl rfl (fun K hK => ?_)
  go_simp
  refine hK.out _ _ (fun _ => by simp [go_sem, ↓IntWalk.iteOmega, *]) ?_
  clear hK K
  refine wpTr_one rfl rfl (fun K hK => ?_)
  go_simp
  refine hK.out _ _ (fun h => by cases h) ?_
  clear hK K
  refine wpTr_nil ?_
  refine NoPanic.normal ?_
  go_wp2
  go_loopw [4] (fun x wr => ∃ i : Nat, x = .int .i64 (i) ∧ i < n + 1 ∧ PI lab d tv mv g n cap' nx w wr) (fun x _ => (intOf x).toNat)
  case atStart =>
    refine ⟨n, by go_num, by omega, ?_, by simp; omega, by simp [go_sem, ↓IntWalk.iteOmega]; exact C0.out, by simp [go_sem, ↓IntWalk.iteOmega, *], by simp [go_sem, ↓IntWalk.iteOmega, *], by simp [go_sem, ↓IntWalk.iteOmega]; exact C3.out, fun i hi => by rw [World.frozen?_setCell, World.frozen?_setCell]; exact CF.out i hi, ?_⟩
    · (repeat (with_reducible refine HB.kept ?_ ((KeptBut.refl _ _).set' _ _) hgd))
      exact HB3.out
    · exact (HKL.out.set (Or.inl HH.out.ld) _).set (Or.inl HH.out.ld) _
  case round =>
    clear c1 c2 cf1 cf2 r0 r1 r2 h1 h2 f1 f2
    obtain ⟨i, rfl, hi, hP⟩ := hrel
    have HP := hid hP
    have d2 := hP.lt
    have e2 := hP.c1
    have lb := hP.hb.lt
    by_cases hz : 0 < i
    · obtain ⟨l, hl⟩ : ∃ l, (i - 1) / 2 = l := ⟨_, rfl⟩
      have hli : l < i := by omega
      have hl2 : l < n + 1 := by omega
      have hl3 : (l : Int) < (n : Int) + 1 := by omega
      have hi3 : (i : Int) < (n : Int) + 1 := by omega
      have hq : Int.tdiv ((i : Int) - 1) 2 = l := by rw [Int.tdiv_eq_ediv_of_nonneg (by omega)]; omega
      obtain ⟨x0, x1, x2, x3, p0, p1, p2, p3, f0, f1, f2, f3⟩ := hP.hb.at hi
      obtain ⟨y0, y1, y2, y3, q0, q1, q2, q3, g0, g1, g2, g3⟩ := hP.hb.at hl2
      clear hP hl
      go_wp2
      first | with_reducible refine wp_region_ext2 (by kernel_rfl) (by kernel_rfl) ?_ | refine wp_region_ext (by kernel_rfl) (by kernel_rfl) ?_
      repeat (go_big_quiet_step ((go_at_call 64; exact Calls.ext_of (before_any _ _ _ _ _ _ _ _ _))))
      refine wpQuiet_nil ?_
      rintro w2 ⟨z, hw2⟩
      generalize bef x0 x1 x3 y0 y1 y3 = r
      have hP2 : PI lab d tv mv g n cap' nx w w2 := by rw [hw2]; exact HP.out.below (by (repeat (first | with_reducible exact Below.rf _ | with_reducible exact World.below_ext _ _ | with_reducible refine Below.ex ?_ _ | with_reducible refine Below.al ?_ _ | with_reducible refine Below.setCell ?_ (by simp) _ | with_reducible refine Below.drew ?_)))
      have HP2 := hid hP2
      clear p0 p1 p2 p3 f0 f1 f2 f3 q0 q1 q2 q3 g0 g1 g2 g3 d2 e2 lb hw2
      have d2 := hP2.lt
      have e2 := hP2.c1
      have lb := hP2.hb.lt
      obtain ⟨x0, x1, x2, x3, p0, p1, p2, p3, f0, f1, f2, f3⟩ := hP2.hb.at hi
      obtain ⟨y0, y1, y2, y3, q0, q1, q2, q3, g0, g1, g2, g3⟩ := hP2.hb.at hl2
      clear hP2
      cases r with
      | false =>
        go_wp2
        refine bodyPost_end (v := .tuple #[]) (by simp [results, Tryz.results14]) rfl ?_
        exact HP2.out.done hgd HGL2.out HH.out.ld h3 h4
      | true =>
        go_wp2
        refine wp_region_tree 25 (fun w' => w'.cell? ⟨d, 1, none⟩ = some (.slice (some ⟨g, 0, none⟩) (n + 1) cap') ∧ w'.cell? ⟨g, i * 4, none⟩ = some (.int .i64 (x0)) ∧ w'.cell? ⟨g, i * 4 + 1, none⟩ = some (.int .i64 (x1)) ∧ w'.cell? ⟨g, i * 4 + 2, none⟩ = some (.int .i64 (x2)) ∧ w'.cell? ⟨g, i * 4 + 3, none⟩ = some (.int .i64 (x3)) ∧ w'.cell? ⟨g, l * 4, none⟩ = some (.int .i64 (y0)) ∧ w'.cell? ⟨g, l * 4 + 1, none⟩ = some (.int .i64 (y1)) ∧ w'.cell? ⟨g, l * 4 + 2, none⟩ = some (.int .i64 (y2)) ∧ w'.cell? ⟨g, l * 4 + 3, none⟩ = some (.int .i64 (y3))) (.q 0 false (.q 1 false (.q 2 false (.q 3 true (.q 4 false (.q 5 false (.q 6 false (.q 7 false (.q 8 true (.q 9 false (.q 10 false (.q 11 false (.q 12 false (.q 13 true (.q 14 false (.q 15 false (.q 16 true (.q 17 false (.q 18 false (.q 19 false (.q 20 true (.q 21 false (.q 22 false (.q 23 true (.one 24 true (.one 25 false (.one 26 false (.one 27 false (.nil))))))))))))))))))))))))))))) (by kernel_rfl) (by kernel_rfl) (by kernel_rfl) ?_ ?_
        · simp [go_sem, ↓IntWalk.iteOmega, *]
        repeat (first | (refine wpTr_qf (v := ?_) rfl rfl ?_ ?_; rotate_left; focus (intro w; go_simp; (try (with_reducible rfl)); done); try simp only [List.getElem_toArray, List.getElem_cons_zero, List.getElem_cons_succ, Act.put, List.setIfInBounds_toArray, List.set_cons_zero, List.set_cons_succ]) | (refine wpTr_qt (v := ?_) rfl rfl ?_ ?_; rotate_left; focus (intro w hSw; (try dsimp only at hSw); go_simp; (try (with_reducible rfl)); done); try simp only [List.getElem_toArray, List.getElem_cons_zero, List.getElem_cons_succ, Act.put, List.setIfInBounds_toArray, List.set_cons_zero, List.set_cons_succ]))
        refine wpTr_one rfl rfl (fun K hK => ?_)
        go_simp
        refine hK.out _ _ (fun _ => by simp [go_sem, ↓IntWalk.iteOmega, *]) ?_
        clear hK K
        refine wpTr_one rfl rfl (fun K hK => ?_)
        go_simp
        refine hK.out _ _ (fun h => by cases h) ?_
        clear hK K
        generalize hW : World.drew (World.setCell (World.setCell (World.setCell (World.setCell w2 _ _) _ _) _ _) _ _) = w5
        have hP5 : PI lab d tv mv g n cap' nx w w5 := by rw [← hW]; exact (HP2.out.put hgd HGL2.out hi y0 y1 y2 y3).below (Below.rf _).drew
        have HP5 := hid hP5
        have lb5 := hP5.hb.lt
        obtain ⟨u0, u1, u2, u3, s0, s1, s2, s3, t0, t1, t2, t3⟩ := hP5.hb.at hl2
        clear hW hP5 p0 p1 p2 p3 q0 q1 q2 q3 f0 f1 f2 f3 g0 g1 g2 g3 lb d2 e2
        refine wpTr_one rfl rfl (fun K hK => ?_)
        go_simp
        refine hK.out _ _ (fun h => by cases h) ?_
        clear hK K
        refine wpTr_one rfl rfl (fun K hK => ?_)
        go_simp
        refine hK.out _ _ (fun h => by cases h) ?_
        clear hK K
        refine wpTr_nil ?_
        refine NoPanic.normal ?_
        go_wp2
        go_roundw
        case rel => exact ⟨l, rfl, hl2, HP5.out.put hgd HGL2.out hl2 x0 x1 x2 x3⟩
        case measure => simp [intOf]; omega
    · obtain rfl : i = 0 := by omega
      clear hP
      go_wp2
      refine bodyPost_end (v := .tuple #[]) (by simp [results, Tryz.results14]) rfl ?_
      exact HP.out.done hgd HGL2.out HH.out.ld h3 h4
end Go.Proofs.Qxb6500717aGreat
