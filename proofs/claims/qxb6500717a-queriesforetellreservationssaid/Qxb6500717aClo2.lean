/-
  Clone: the walk.
-/
import Derived.Test.Qxb6500717aClo
namespace Go.Proofs.Qxb6500717a
open Go.RowKit
set_option linter.unusedSimpArgs false
set_option linter.unusedVariables false
set_option maxRecDepth 20000
set_option maxHeartbeats 4000000

def cl4 (c g p s j : Nat) : Nat := if j = c then 6 else if j = g then 7 else if j = p then 8 else if j = s then 9 else 0
section
variable {c g p s j : Nat}
theorem cl4_c : cl4 c g p s c = 6 := if_pos rfl
theorem cl4_g (h : g ≠ c) : cl4 c g p s g = 7 := by unfold cl4; rw [if_neg h, if_pos rfl]
theorem cl4_p (h : p ≠ c) (h2 : p ≠ g) : cl4 c g p s p = 8 := by unfold cl4; rw [if_neg h, if_neg h2, if_pos rfl]
theorem cl4_s (h : s ≠ c) (h2 : s ≠ g) (h3 : s ≠ p) : cl4 c g p s s = 9 := by unfold cl4; rw [if_neg h, if_neg h2, if_neg h3, if_pos rfl]
theorem cl4_0 (h : j ≠ c) (h2 : j ≠ g) (h3 : j ≠ p) (h4 : j ≠ s) : cl4 c g p s j = 0 := by unfold cl4; rw [if_neg h, if_neg h2, if_neg h3, if_neg h4]
end
theorem is_ext_eq {B : Nat} {w w' : World} (h : Below B w w') (hB : B = w.heap.size) : ∃ z, w' = w.ext z := by subst hB; exact h.is_ext
theorem cell_kp {B : Nat} {w w' : World} (hB : Below B w w') {b i : Nat} (hb : b < B) {v : Value} (h : w.cell? ⟨b, i, none⟩ = some v) : w'.cell? ⟨b, i, none⟩ = some v := by
  rw [World.cell?_of_block (hB.block b hb)]; exact h
theorem froz_kp {B : Nat} {w w' : World} (hB : Below B w w') {b i : Nat} (hb : b < B) {v : Bool} (h : w.frozen? ⟨b, i, none⟩ = v) : w'.frozen? ⟨b, i, none⟩ = v := by
  rw [World.frozen?_of_block (hB.block b hb)]; exact h
theorem app_none (ao : Option Addr) (cap : Nat) : ∀ ty w, (Builtin.append_ #[96, 96] ty #[.slice none 0 0, .slice ao 0 cap]).run Try.prog w = .ok (.slice none 0 0) w := by
  intro ty w
  cases ao <;> kernel_rfl

theorem oper_nil {w : World} {o : Oper} {a : Act} {K : Act → World → Prop} {Q : Exit → Act → World → Prop} (s x : Operand)
    (ho : o.op = .call { callee := .builtin .append, args := #[s, x], argTypes := #[96, 96] }) (ao : Option Addr) (cap : Nat) (hs : a.eval s = .slice none 0 0) (hx : a.eval x = .slice ao 0 cap)
    (h : K (a.put o.dst (.slice none 0 0)) w) : Oper.wp Try.prog o a w K Q := by
  have hrun := app_none ao cap o.type w
  unfold Oper.wp
  simp [execOp, ho, resolve, invoke, builtin, hs, hx, hrun, Result.andThen]
  exact h

theorem clone_any (M : TabM) (T : TabS) (lab : Nat → Nat) (w : World) (h : TAt w lab M T) : Calls Try.prog 29 #[.pointer (some ⟨M.t, 0, none⟩)] w (clonePost T w) := by
  have HH := hid h
  have c0 := h.c0
  have c1 := h.c1
  have c2 := h.c2
  have c3 := h.c3
  have c4 := h.c4
  have c5 := h.c5
  have c6 := h.c6
  have c7 := h.c7
  have hl1 := h.bt.lt
  have hnr := h.bd.nr
  have hnc := h.bd.nc
  obtain ⟨Zp, hp1, hp2, hp3⟩ := make_is (P := Try.prog) 92 117 (.slice none 0 0) 1 24 Try.underlying92 (by kernel_rfl) T.nr (by omega) (by omega)
  obtain ⟨Zs, hs1, hs2, hs3⟩ := make_is (P := Try.prog) 93 96 (.slice none 0 0) 1 24 Try.underlying93 (by kernel_rfl) T.nr (by omega) (by omega)
  have HP2 := hid hp2
  have HS2 := hid hs2
  clear h hp2 hs2 hp1 hs1
  go_enter Try.func29, Try.ntmps29
  go_wp2_with (at_builtin; refine hold ?_)
  unfold Hid
  refine wp_app rfl _ _ 91 rfl (w.heap.size + 1) 119 (.int .i8 0) 1 1 Try.underlying91 (by kernel_rfl) rfl (by decide) _ 0 [] rfl ⟨rfl, Or.inl ⟨rfl, rfl⟩⟩ M.g 0 (256 * T.nc) M.gc (rowL (256 * T.nc) (fun i => .int .i8 (T.gr i))) rfl (rowL_len _ _) ?_ (rowL_one _ _ (fun _ => rfl)) (by omega) (by omega) (by simp) ?_
  · intro j u hj
    obtain ⟨h1, rfl⟩ := range_at hj
    rw [Nat.zero_add, World.cell?_of_block ((Below.al (Below.rf w) _).block M.g HH.out.bg.lt)]
    exact HH.out.bg.is j h1
  intro v1 w1 hown hb
  rw [List.nil_append, Nat.zero_add] at hown
  obtain ⟨g, gc, rfl, hgc, hg1, hg2⟩ := own_blk hown (by omega)
  obtain ⟨z1, rfl⟩ := is_ext_eq hb (by simp)
  have HG2 := hid hg2
  have hg3 := hg2.lt
  simp at hg3
  clear hown hb hg2
  go_wp2
  go_loopw [29] (fun x wr => ∃ (k : Nat) (lab2 : Nat → Nat) (M2 : TabM), x = .int .i64 (k) ∧ k ≤ T.nr ∧ M2.t = w.heap.size ∧ CloK T k k w wr lab2 M2) (fun x _ => T.nr - (intOf x).toNat)
  case atStart =>
    refine ⟨0, cl4 w.heap.size g (w.heap.size + 1 + z1.heap.size) (w.heap.size + 1 + z1.heap.size + 1), ⟨w.heap.size, g, w.heap.size + 1 + z1.heap.size, w.heap.size + 1 + z1.heap.size + 1, fun _ => 0, fun _ => .slice none 0 0, gc, fun _ => 0⟩, rfl, by omega, rfl, ?_⟩
    refine ⟨fun j hj => cl4_0 (by omega) (by omega) (by omega) (by omega), by (repeat (first | with_reducible exact Below.rf _ | with_reducible exact World.below_ext _ _ | with_reducible refine Below.ex ?_ _ | with_reducible refine Below.al ?_ _ | with_reducible refine Below.setCell ?_ (by simp) _ | with_reducible refine Below.drew ?_)), cl4_c, cl4_g (by omega), cl4_p (by omega) (by omega), cl4_s (by omega) (by omega) (by omega), ⟨by simp; omega, fun i hi => ?_, fun i hi => by simp [go_sem, ↓IntWalk.iteOmega]⟩, ?_, ⟨by simp; omega, fun i hi => by simp [go_sem, ↓IntWalk.iteOmega, HP2.out, hi, made1], fun i hi => by simp [go_sem, ↓IntWalk.iteOmega]⟩, ⟨by simp, fun i hi => by simp [go_sem, ↓IntWalk.iteOmega, HS2.out, hi, made1], fun i hi => by simp [go_sem, ↓IntWalk.iteOmega]⟩, fun j hj => absurd hj (Nat.not_lt_zero _), fun j hj => absurd hj (Nat.not_lt_zero _)⟩
    · rcases (by omega : i = 0 ∨ i = 1 ∨ i = 2 ∨ i = 3 ∨ i = 4 ∨ i = 5 ∨ i = 6 ∨ i = 7) with rfl | rfl | rfl | rfl | rfl | rfl | rfl | rfl <;> simp [go_sem, ↓IntWalk.iteOmega, tcell]
    · refine HG2.out.of_block (by simp; omega) ?_
      rw [Below.heap_alloc _ _ _ (by simp; omega), Below.heap_alloc _ _ _ (by simp; omega), World.block_ext_behind _ _ _ (by simp; omega), World.block_ext_behind _ _ _ (by simp; omega)]
      simp
  case round =>
    clear c0 c1 c2 c3 c4 c5 c6 c7 hl1 hg1 hg3 hgc hp3 hs3
    obtain ⟨k, lab2, M2, rfl, hk, hMt, hC⟩ := hrel
    have HC := hid hC
    by_cases hlt : k < T.nr
    · have hTr := HH.out.below hC.bl
      have g6 := hC.bt.is 6 (by omega)
      have g7 := hC.bt.is 7 (by omega)
      rw [hMt] at g6 g7
      simp only [tcell] at g6 g7
      have c6 := hTr.c6
      have c7 := hTr.c7
      have cp := hTr.bp.is k hlt
      have cs := hTr.bs.is k hlt
      have l1 := hTr.bt.lt
      have l2 := hTr.bp.lt
      have l3 := hTr.bs.lt
      have l4 := hC.bp.lt
      have l5 := hC.bs.lt
      have l6 := hC.bt.lt
      rw [hMt] at l6
      have HROW := hid (hTr.bpr k hlt)
      have p1 := hC.bp.is k hlt
      have p2 := hC.bp.fz k hlt
      simp only [if_neg (Nat.lt_irrefl k)] at p1
      have sw := hC.bl.size
      have HTR := hid hTr
      clear hC hTr
      go_wp2
      refine wp_region_tree 12 (fun w' => w'.cell? ⟨w.heap.size, 6, none⟩ = some (.slice (some ⟨M2.p, 0, none⟩) T.nr T.nr) ∧ w'.cell? ⟨M.t, 6, none⟩ = some (.slice (some ⟨M.p, 0, none⟩) T.nr T.nr) ∧ w'.cell? ⟨M.p, k, none⟩ = some (.slice (some ⟨M.pr k, 0, none⟩) 256 (M.pc k))) (.q 0 false (.q 1 true (.q 2 false (.q 3 false (.q 4 false (.q 5 false (.q 6 true (.q 7 false (.q 8 false (.q 9 true (.one 10 true (.q 11 false (.one 12 false .nil))))))))))))) (by kernel_rfl) (by kernel_rfl) (by kernel_rfl) ?_ ?_
      · simp [go_sem, ↓IntWalk.iteOmega, *]
      repeat (first | (refine wpTr_qf (v := ?_) rfl rfl ?_ ?_; rotate_left; focus (intro w; go_simp; (try (with_reducible rfl)); done); try simp only [List.getElem_toArray, List.getElem_cons_zero, List.getElem_cons_succ, Act.put, List.setIfInBounds_toArray, List.set_cons_zero, List.set_cons_succ]) | (refine wpTr_qt (v := ?_) rfl rfl ?_ ?_; rotate_left; focus (intro w hSw; (try dsimp only at hSw); go_simp; (try (with_reducible rfl)); done); try simp only [List.getElem_toArray, List.getElem_cons_zero, List.getElem_cons_succ, Act.put, List.setIfInBounds_toArray, List.set_cons_zero, List.set_cons_succ]))
      refine wpTr_one rfl rfl (fun K hK => ?_)
      refine oper_app (P := Try.prog) rfl _ _ 117 rfl wr.heap.size 118 (.int .i16 0) 1 2 Try.underlying117 (by kernel_rfl) rfl (by decide) (.slice none 0 0) 0 [] rfl ⟨rfl, Or.inl ⟨rfl, rfl⟩⟩ (M.pr k) 0 256 (M.pc k) (rowL 256 (fun i => .int .i16 (T.pl k i))) (by simp [go_sem]) (rowL_len _ _) ?_ (rowL_one _ _ (fun _ => rfl)) (by omega) (by omega) (by simp) ?_
      · intro j u hj
        obtain ⟨h1, rfl⟩ := range_at hj
        rw [Nat.zero_add, World.cell?_of_block ((Below.rf wr).drew.block _ HROW.out.lt)]
        exact HROW.out.is j h1
      intro v1 w1 hown hb
      rw [List.nil_append, Nat.zero_add] at hown
      obtain ⟨b, pcap, rfl, hpc, hb1, hb2⟩ := own_blk hown (by omega)
      have HB2 := hid hb2
      have hb3 := hb2.lt
      have hBL : Below wr.heap.size wr w1 := (Below.rf wr).drew.trans hb
      have HBL := hid hBL
      have S1 := cell_kp hBL (by omega) g6
      have S2 := cell_kp hBL (by omega) c6
      have S3 := cell_kp hBL (by omega) cp
      have S4 := cell_kp hBL (by omega) p1
      have S5 := froz_kp hBL (by omega) p2
      have S6 := hBL.size
      clear hown hb hb2 hBL g6 c6 cp p1 p2
      refine hK.out _ _ (fun _ => by simp [go_sem, ↓IntWalk.iteOmega, *]) ?_
      clear hK K
      repeat (first | (refine wpTr_qf (v := ?_) rfl rfl ?_ ?_; rotate_left; focus (intro w; go_simp; (try (with_reducible rfl)); done); try simp only [List.getElem_toArray, List.getElem_cons_zero, List.getElem_cons_succ, Act.put, List.setIfInBounds_toArray, List.set_cons_zero, List.set_cons_succ]) | (refine wpTr_qt (v := ?_) rfl rfl ?_ ?_; rotate_left; focus (intro w hSw; (try dsimp only at hSw); go_simp; (try (with_reducible rfl)); done); try simp only [List.getElem_toArray, List.getElem_cons_zero, List.getElem_cons_succ, Act.put, List.setIfInBounds_toArray, List.set_cons_zero, List.set_cons_succ]))
      refine wpTr_one rfl rfl (fun K hK => ?_)
      go_simp
      refine hK.out _ _ (fun h => by cases h) ?_
      clear hK K
      refine wpTr_nil ?_
      refine NoPanic.normal ?_
      have hC5 := HC.out.row (w5 := w1) (by omega) (by omega) hlt b pcap (by omega) HBL.out HB2.out
      clear HB2 HBL HROW S1 S2 S3 S4 S5 cs c7 g7 HTR l1 l2 l3 l4 l5 l6 hb1 hpc hb3 S6
      generalize w1.setCell ⟨M2.p, k, none⟩ (.slice (some ⟨b, 0, none⟩) 256 pcap) = w8 at hC5 ⊢
      have HC5 := hid hC5
      have v7 := hC5.bt.is 7 (by omega)
      have v8 := hC5.bs.is k hlt
      have v9 := hC5.bs.fz k hlt
      simp only [if_neg (Nat.lt_irrefl k)] at v8
      rw [show ({ M2 with pr := upd M2.pr k b, pc := upd M2.pc k pcap } : TabM).t = w.heap.size from hMt] at v7
      simp only [tcell] at v7
      have hTr5 := HH.out.below hC5.bl
      have x7 := hTr5.c7
      have xs := hTr5.bs.is k hlt
      have y1 := hTr5.bt.lt
      have y2 := hTr5.bs.lt
      have y3 := hC5.bt.lt
      rw [show ({ M2 with pr := upd M2.pr k b, pc := upd M2.pc k pcap } : TabM).t = w.heap.size from hMt] at y3
      have y4 := hC5.bs.lt
      have hsp := hTr5.bsr k hlt
      obtain ⟨ao, cap, hv⟩ := hsp.val
      rw [hv] at xs hsp
      have HSP := hid hsp
      have y5 := hTr5.bd.ln k hlt
      have sw8 := hC5.bl.size
      clear hC5 hTr5 hsp hv
      go_wp2
      refine wp_region_tree 12 (fun w' => w'.cell? ⟨w.heap.size, 7, none⟩ = some (.slice (some ⟨M2.s, 0, none⟩) T.nr T.nr) ∧ w'.cell? ⟨M.t, 7, none⟩ = some (.slice (some ⟨M.s, 0, none⟩) T.nr T.nr) ∧ w'.cell? ⟨M.s, k, none⟩ = some (.slice ao (T.sp k).length cap)) (.q 0 false (.q 1 true (.q 2 false (.q 3 false (.q 4 false (.q 5 false (.q 6 true (.q 7 false (.q 8 false (.q 9 true (.one 10 true (.q 11 false (.one 12 false .nil))))))))))))) (by kernel_rfl) (by kernel_rfl) (by kernel_rfl) ?_ ?_
      · simp [go_sem, ↓IntWalk.iteOmega, *]
      repeat (first | (refine wpTr_qf (v := ?_) rfl rfl ?_ ?_; rotate_left; focus (intro w; go_simp; (try (with_reducible rfl)); done); try simp only [List.getElem_toArray, List.getElem_cons_zero, List.getElem_cons_succ, Act.put, List.setIfInBounds_toArray, List.set_cons_zero, List.set_cons_succ]) | (refine wpTr_qt (v := ?_) rfl rfl ?_ ?_; rotate_left; focus (intro w hSw; (try dsimp only at hSw); go_simp; (try (with_reducible rfl)); done); try simp only [List.getElem_toArray, List.getElem_cons_zero, List.getElem_cons_succ, Act.put, List.setIfInBounds_toArray, List.set_cons_zero, List.set_cons_succ]))
      refine wpTr_one rfl rfl (fun K hK => ?_)
      by_cases hemp : (T.sp k).length = 0
      · have hnil : T.sp k = [] := List.length_eq_zero_iff.1 hemp
        refine oper_nil _ _ rfl ao cap rfl (by simp [go_sem, hemp]) ?_
        have hBL : Below w8.heap.size w8 w8.drew := (Below.rf w8).drew
        refine hK.out _ _ (fun _ => by simp [go_sem, ↓IntWalk.iteOmega, *]) ?_
        clear hK K
        repeat (first | (refine wpTr_qf (v := ?_) rfl rfl ?_ ?_; rotate_left; focus (intro w; go_simp; (try (with_reducible rfl)); done); try simp only [List.getElem_toArray, List.getElem_cons_zero, List.getElem_cons_succ, Act.put, List.setIfInBounds_toArray, List.set_cons_zero, List.set_cons_succ]) | (refine wpTr_qt (v := ?_) rfl rfl ?_ ?_; rotate_left; focus (intro w hSw; (try dsimp only at hSw); go_simp; (try (with_reducible rfl)); done); try simp only [List.getElem_toArray, List.getElem_cons_zero, List.getElem_cons_succ, Act.put, List.setIfInBounds_toArray, List.set_cons_zero, List.set_cons_succ]))
        refine wpTr_one rfl rfl (fun K hK => ?_)
        go_simp
        refine hK.out _ _ (fun h => by cases h) ?_
        clear hK K
        refine wpTr_nil ?_
        refine NoPanic.normal ?_
        have HC6 := hid (HC5.out.span (w5 := w8.drew) (by omega) (by omega) hlt (.slice none 0 0) hBL (fun _ _ => rfl) ⟨none, 0, by rw [hnil]; rfl, by rw [hnil]; simp, Or.inl ⟨rfl, rfl⟩⟩)
        clear hBL
        go_wp2
        go_roundw
        case rel =>
          have hx6 := HC6.out
          exact ⟨k + 1, _, { M2 with pr := upd M2.pr k b, pc := upd M2.pc k pcap, sv := _ }, by go_num, by omega, hMt, hx6⟩
        case measure => simp [intOf]; omega
      · have hpos : 0 < (T.sp k).length := by omega
        obtain ⟨ao', cap', e1, e2, e3⟩ := HSP.out.ex
        simp only [Value.slice.injEq, true_and] at e1
        obtain ⟨rfl, rfl⟩ := e1
        rcases e3 with ⟨-, e3⟩ | ⟨sbk, rfl, e4, e5⟩
        · omega
        refine oper_app (P := Try.prog) rfl _ _ 96 rfl w8.heap.size 98 (.agg #[.int .i64 (0), .int .i64 (0), .int .i64 (0)]) 3 24 Try.underlying96 (by kernel_rfl) rfl (by decide) (.slice none 0 0) 0 [] rfl ⟨rfl, Or.inl ⟨rfl, rfl⟩⟩ sbk 0 (T.sp k).length cap (srow (T.sp k)) (by simp [go_sem]) (by rw [srow_len]; omega) ?_ ?_ (by omega) (by omega) (by simp) ?_
        · intro j u hj
          rw [Nat.zero_add, World.cell?_of_block ((Below.rf w8).drew.block _ e5.lt)]
          exact e5.is j u hj
        · intro u hu
          unfold srow at hu
          obtain ⟨x, -, hu2⟩ := List.mem_flatMap.1 hu
          simp at hu2
          rcases hu2 with rfl | rfl | rfl <;> rfl
        intro v1 w9 hown hb
        rw [List.nil_append, Nat.zero_add] at hown
        obtain ⟨gb, gcap, rfl, hgc2, hg5, hpad⟩ := own_pad hown (by omega)
        have hBL : Below w8.heap.size w8 w9 := (Below.rf w8).drew.trans hb
        have S1 := cell_kp hBL (by omega) v7
        have S2 := cell_kp hBL (by omega) x7
        have S3 := cell_kp hBL (by omega) xs
        have S4 := cell_kp hBL (by omega) v8
        have S5 := froz_kp hBL (by omega) v9
        have S6 := hBL.size
        have HC6 := hid (HC5.out.span (w5 := w9) (lab' := upd (upd lab2 b (10 + k)) gb (20 + k)) (by omega) (by omega) hlt (.slice (some ⟨gb, 0, none⟩) (T.sp k).length gcap) hBL (fun c hc => upd_ne _ _ (by omega)) ⟨_, gcap, rfl, hgc2, Or.inr ⟨gb, rfl, ⟨upd_at _ _ _, by omega⟩, hpad⟩⟩)
        clear hown hb hpad hBL v7 x7 xs v8 v9 e5 HSP
        refine hK.out _ _ (fun _ => by simp [go_sem, ↓IntWalk.iteOmega, *]) ?_
        clear hK K
        repeat (first | (refine wpTr_qf (v := ?_) rfl rfl ?_ ?_; rotate_left; focus (intro w; go_simp; (try (with_reducible rfl)); done); try simp only [List.getElem_toArray, List.getElem_cons_zero, List.getElem_cons_succ, Act.put, List.setIfInBounds_toArray, List.set_cons_zero, List.set_cons_succ]) | (refine wpTr_qt (v := ?_) rfl rfl ?_ ?_; rotate_left; focus (intro w hSw; (try dsimp only at hSw); go_simp; (try (with_reducible rfl)); done); try simp only [List.getElem_toArray, List.getElem_cons_zero, List.getElem_cons_succ, Act.put, List.setIfInBounds_toArray, List.set_cons_zero, List.set_cons_succ]))
        refine wpTr_one rfl rfl (fun K hK => ?_)
        go_simp
        refine hK.out _ _ (fun h => by cases h) ?_
        clear hK K
        refine wpTr_nil ?_
        refine NoPanic.normal ?_
        go_wp2
        go_roundw
        case rel =>
          have hx6 := HC6.out
          exact ⟨k + 1, _, { M2 with pr := upd M2.pr k b, pc := upd M2.pc k pcap, sv := _ }, by go_num, by omega, hMt, hx6⟩
        case measure => simp [intOf]; omega
    · have hC' := HC.out
      obtain rfl : k = T.nr := by omega
      have HTA := hid (hC'.done HH.out.bd)
      clear hC hC'
      go_wp2
      refine bodyPost_ret (v := .pointer (some ⟨w.heap.size, 0, none⟩)) (by simp [results, Try.results29, go_sem, ↓IntWalk.iteOmega]) rfl ?_
      exact ⟨M2, lab2, by rw [hMt], HTA.out, HC.out.l0, HC.out.bl⟩
end Go.Proofs.Qxb6500717a
