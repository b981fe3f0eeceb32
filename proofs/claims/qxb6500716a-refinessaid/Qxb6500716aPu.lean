/-
  reach: the walk.
-/
import Derived.Test.Qxb6500716aPt
namespace Go.Proofs.Qxb6500716a
open Go.RowKit Go.Maps
set_option linter.unusedSimpArgs false
set_option linter.unusedVariables false
set_option maxRecDepth 20000
set_option maxHeartbeats 4000000

theorem seen_put (f : Int → Bool) (i : Int) : (fun x => x = i ∨ f x = true) = (fun x => (decide (x = i) || f x) = true) := by funext x; simp
/-- What 'reach' leaves. -/
def PS.reach (F : FS) (gl : List (Int × Int)) (bay hz : Int) (S : PS) (c o l : Nat) (p : Int) : PS :=
  if hz < (o : Int) + (F.est bay gl c l : Int) then S
  else if S.seen (((o : Int) * ((gl.length : Int) + 1) + (l : Int)) * (F.n : Int) + (c : Int)) = true then S
  else { S with hp := S.hp ++ [⟨o + F.est bay gl c l, F.est bay gl c l, S.nd.length⟩], nd := S.nd ++ [⟨c, o, l, p⟩], seen := fun x => decide (x = ((o : Int) * ((gl.length : Int) + 1) + (l : Int)) * (F.n : Int) + (c : Int)) || S.seen x }
def scrL (x : Nat) : Prop := x = 5 ∨ x = 6 ∨ x = 7 ∨ x = 9
def reachPost (lab : Nat → Nat) (N : PM) (fb tb n : Nat) (S : PS) (w : World) (e : Ending) (w' : World) : Prop :=
  ∃ (lab' : Nat → Nat) (N' : PM) (n' : Nat), e = .returned (.tuple #[]) ∧ PAt w' lab' N' fb tb S n' ∧ N'.p = N.p ∧ n' ≤ n + 1 ∧ (∀ k, k < w.heap.size → lab' k = lab k) ∧ KeptL lab scrL w w'
theorem est_bd {F : FS} (hF : FOk F) {bay : Int} {gl : List (Int × Int)} (hg : F.gok gl) (c l : Nat) : F.est bay gl c l ≤ 18000000 := by
  unfold FS.est
  have h1 := hF.le c (ETg bay (gl.drop l)).toNat
  have h2 := EAf_bd hF (bay := bay) (gl := gl.drop l) (fun p hp => hg.2 p (drop_mem hp))
  have h3 : (gl.drop l).length * 1048640 ≤ 16 * 1048640 := Nat.mul_le_mul_right _ (by have := hg.1; simp; omega)
  omega
theorem reach_any (M : TM) (T : TS) (N : PM) (S : PS) (n rb fb : Nat) (F : FS) (lab : Nat → Nat) (q : Rq) (gv tv av : Value) (bay hz : Int) (c o l : Nat) (p : Int) (w : World) (hF : FAt w lab fb F) (hP : PAt w lab N fb M.t S n) (hR : RAt w lab rb N.p fb F q gv tv av bay hz)
    (hgo : F.gok q.gl) (hby : 0 ≤ bay ∧ bay < (F.n : Int)) (hhz : 0 ≤ hz ∧ hz ≤ 255) (hms : ((hz + 1) * ((q.gl.length : Int) + 1) * (F.n : Int)) ≤ (S.ms : Int)) (hms2 : S.ms ≤ 4000000) (hc : c < F.n) (hl : l ≤ q.gl.length) (ho : o ≤ 400) (hp : -1 ≤ p ∧ p ≤ 900000000) (hnd : S.nd.length ≤ 800000000) (hhp : S.hp.length ≤ 800000000) (hn : n ≤ 800000000) :
    Calls Try.prog 86 #[.pointer (some ⟨rb, 0, none⟩), .int .i64 (c), .int .i64 (o), .int .i64 (l), .int .i64 (p)] w (reachPost lab N fb M.t n (S.reach F q.gl bay hz c o l p) w) := by
  have HF := hid hF
  have HP := hid hP
  have HR := hid hR
  have r0 : w.cell? ⟨rb, 0, none⟩ = some (.pointer (some ⟨N.p, 0, none⟩)) := hR.b.is 0 (by omega)
  have r7 : w.cell? ⟨rb, 7, none⟩ = some (.pointer (some ⟨fb, 0, none⟩)) := hR.b.is 7 (by omega)
  have r8 : w.cell? ⟨rb, 8, none⟩ = some tv := hR.b.is 8 (by omega)
  have r9 : w.cell? ⟨rb, 9, none⟩ = some av := hR.b.is 9 (by omega)
  have r11 : w.cell? ⟨rb, 11, none⟩ = some (.int .i64 ((q.gl.length : Int) + 1)) := hR.b.is 11 (by omega)
  have r12 : w.cell? ⟨rb, 12, none⟩ = some (.int .i64 (hz)) := hR.b.is 12 (by omega)
  have hrl := hR.b.lt
  have hpl := hP.bp.lt
  have c0 := hP.c0
  have c3 := hP.c3
  have EA := hid (fun (w' : World) (h : Below w.heap.size w w') => estAt_any fb F tv av lab bay q.gl c l w' (hF.below h) hgo hby ((hR.below h).t) ((hR.below h).a) hc hl)
  have CL := hid (fun (w' : World) (h : Below w.heap.size w w') => cells_any fb F lab w' (hF.below h))
  obtain ⟨to, tc, htv, -⟩ := hR.t.ex
  obtain ⟨ao, ac, hav, -⟩ := hR.a.ex
  have hes := est_bd hF.ok (bay := bay) hgo c l
  have hn384 := hF.ok.n
  have hk16 := hgo.1
  unfold PS.reach
  obtain ⟨x, hx⟩ : ∃ x, F.est bay q.gl c l = x := ⟨_, rfl⟩
  rw [hx] at hes EA ⊢
  obtain ⟨k, hk⟩ : ∃ k, q.gl.length = k := ⟨_, rfl⟩
  rw [hk] at r11 hms hl hk16 ⊢
  obtain ⟨fn, hfn⟩ : ∃ y, F.n = y := ⟨_, rfl⟩
  rw [hfn] at CL hn384 hc hms hby ⊢
  rw [htv] at r8 EA
  rw [hav] at r9 EA
  have HK := hid hk
  have HFN := hid hfn
  have HGO := hid hgo
  clear hF hP hR hgo hx hk hfn htv hav
  by_cases g1 : hz < (o : Int) + (x : Int)
  · rw [if_pos g1]
    clear hms
    go_enter Try.func86, Try.ntmps86
    go_wp2_with (first | (go_at_call 31; refine (EA.out _ (by (repeat (first | with_reducible exact Below.rf _ | with_reducible exact World.below_ext _ _ | with_reducible refine Below.ex ?_ _ | with_reducible refine Below.al ?_ _ | with_reducible refine Below.setCell ?_ (by simp) _ | with_reducible refine Below.drew ?_)))).mono ?_; rintro e w1 ⟨rfl, z, rfl⟩))
    refine bodyPost_ret (v := .tuple #[]) (by simp [results, Try.results86, go_sem]) rfl ?_
    exact ⟨lab, N, n, rfl, HP.out.below (by (repeat (first | with_reducible exact Below.rf _ | with_reducible exact World.below_ext _ _ | with_reducible refine Below.ex ?_ _ | with_reducible refine Below.al ?_ _ | with_reducible refine Below.setCell ?_ (by simp) _ | with_reducible refine Below.drew ?_))), rfl, by omega, fun _ _ => rfl, KeptL.of_below (by (repeat (first | with_reducible exact Below.rf _ | with_reducible exact World.below_ext _ _ | with_reducible refine Below.ex ?_ _ | with_reducible refine Below.al ?_ _ | with_reducible refine Below.setCell ?_ (by simp) _ | with_reducible refine Below.drew ?_)))⟩
  · rw [if_neg g1]
    have ho2 : o ≤ 255 := by omega
    have m1 : 0 ≤ (o : Int) * ((k : Int) + 1) ∧ (o : Int) * ((k : Int) + 1) ≤ 255 * 17 := ⟨Int.mul_nonneg (by omega) (by omega), Int.mul_le_mul (by omega) (by omega) (by omega) (by omega)⟩
    have m2 : 0 ≤ ((o : Int) * ((k : Int) + 1) + (l : Int)) * (fn : Int) ∧ ((o : Int) * ((k : Int) + 1) + (l : Int)) * (fn : Int) ≤ (255 * 17 + 16) * 384 := ⟨Int.mul_nonneg (by omega) (by omega), Int.mul_le_mul (by omega) (by omega) (by omega) (by omega)⟩
    have m3 : ((o : Int) * ((k : Int) + 1) + (l : Int)) * (fn : Int) + (c : Int) < (S.ms : Int) := by
      have e1 : (o : Int) * ((k : Int) + 1) + (l : Int) + 1 ≤ (hz + 1) * ((k : Int) + 1) := by
        have : (o : Int) * ((k : Int) + 1) + ((k : Int) + 1) ≤ (hz + 1) * ((k : Int) + 1) := by
          have h3 : ((o : Int) + 1) * ((k : Int) + 1) ≤ (hz + 1) * ((k : Int) + 1) := Int.mul_le_mul_of_nonneg_right (by omega) (by omega)
          rwa [Int.add_mul (o : Int) 1, Int.one_mul] at h3
        omega
      have e2 := Int.mul_le_mul_of_nonneg_right e1 (by omega : 0 ≤ (fn : Int))
      rw [Int.add_mul ((o : Int) * ((k : Int) + 1) + (l : Int)) 1, Int.one_mul] at e2
      omega
    clear hms
    obtain ⟨st, hst⟩ : ∃ y, ((o : Int) * ((k : Int) + 1) + (l : Int)) * (fn : Int) + (c : Int) = y := ⟨_, rfl⟩
    have hst0 : 0 ≤ st := by omega
    rw [hst] at m3 ⊢
    have HST := hid hst
    by_cases g2 : S.seen st = true
    · rw [if_pos g2]
      have MH := hid (fun (w' : World) (h : Below w.heap.size w w') => mhas_any N.kb N.mb S.ms n (fun x => S.seen x = true) lab st ⟨by omega, by omega⟩ true (by simp [g2]) w' (HP.out.below h).bk)
      clear hst
      go_enter Try.func86, Try.ntmps86
      go_wp2_with (first | (go_at_call 31; refine (EA.out _ (by (repeat (first | with_reducible exact Below.rf _ | with_reducible exact World.below_ext _ _ | with_reducible refine Below.ex ?_ _ | with_reducible refine Below.al ?_ _ | with_reducible refine Below.setCell ?_ (by simp) _ | with_reducible refine Below.drew ?_)))).mono ?_; rintro e w1 ⟨rfl, z, rfl⟩))
      first | with_reducible refine wp_region_ext2 (by kernel_rfl) (by kernel_rfl) ?_ | refine wp_region_ext (by kernel_rfl) (by kernel_rfl) ?_
      repeat (go_big_quiet_step ((go_at_call 30; exact Calls.ext_of_same (CL.out _ (by (repeat (first | with_reducible exact Below.rf _ | with_reducible exact World.below_ext _ _ | with_reducible refine Below.ex ?_ _ | with_reducible refine Below.al ?_ _ | with_reducible refine Below.setCell ?_ (by simp) _ | with_reducible refine Below.drew ?_)))))))
      refine wpQuiet_nil ?_
      rintro _ ⟨z, rfl⟩
      rw [HST.out]
      go_wp2_with (first | (go_at_call 95; refine (MH.out _ (by (repeat (first | with_reducible exact Below.rf _ | with_reducible exact World.below_ext _ _ | with_reducible refine Below.ex ?_ _ | with_reducible refine Below.al ?_ _ | with_reducible refine Below.setCell ?_ (by simp) _ | with_reducible refine Below.drew ?_)))).mono ?_; rintro e w1 ⟨rfl, rfl⟩))
      refine bodyPost_ret (v := .tuple #[]) (by simp [results, Try.results86, go_sem]) rfl ?_
      exact ⟨lab, N, n, rfl, HP.out.below (by (repeat (first | with_reducible exact Below.rf _ | with_reducible exact World.below_ext _ _ | with_reducible refine Below.ex ?_ _ | with_reducible refine Below.al ?_ _ | with_reducible refine Below.setCell ?_ (by simp) _ | with_reducible refine Below.drew ?_))), rfl, by omega, fun _ _ => rfl, KeptL.of_below (by (repeat (first | with_reducible exact Below.rf _ | with_reducible exact World.below_ext _ _ | with_reducible refine Below.ex ?_ _ | with_reducible refine Below.al ?_ _ | with_reducible refine Below.setCell ?_ (by simp) _ | with_reducible refine Below.drew ?_)))⟩
    · rw [if_neg g2]
      have MH := hid (fun (w' : World) (h : Below w.heap.size w w') => mhas_any N.kb N.mb S.ms n (fun x => S.seen x = true) lab st ⟨by omega, by omega⟩ false (by simp [g2]) w' (HP.out.below h).bk)
      clear hst
      go_enter Try.func86, Try.ntmps86
      go_wp2_with (first | (go_at_call 31; refine (EA.out _ (by (repeat (first | with_reducible exact Below.rf _ | with_reducible exact World.below_ext _ _ | with_reducible refine Below.ex ?_ _ | with_reducible refine Below.al ?_ _ | with_reducible refine Below.setCell ?_ (by simp) _ | with_reducible refine Below.drew ?_)))).mono ?_; rintro e w1 ⟨rfl, z, rfl⟩))
      first | with_reducible refine wp_region_ext2 (by kernel_rfl) (by kernel_rfl) ?_ | refine wp_region_ext (by kernel_rfl) (by kernel_rfl) ?_
      repeat (go_big_quiet_step ((go_at_call 30; exact Calls.ext_of_same (CL.out _ (by (repeat (first | with_reducible exact Below.rf _ | with_reducible exact World.below_ext _ _ | with_reducible refine Below.ex ?_ _ | with_reducible refine Below.al ?_ _ | with_reducible refine Below.setCell ?_ (by simp) _ | with_reducible refine Below.drew ?_)))))))
      refine wpQuiet_nil ?_
      rintro _ ⟨z, rfl⟩
      rw [HST.out]
      go_wp2_with (first | (go_at_call 95; refine (MH.out _ (by (repeat (first | with_reducible exact Below.rf _ | with_reducible exact World.below_ext _ _ | with_reducible refine Below.ex ?_ _ | with_reducible refine Below.al ?_ _ | with_reducible refine Below.setCell ?_ (by simp) _ | with_reducible refine Below.drew ?_)))).mono ?_; rintro e w1 ⟨rfl, rfl⟩))
      have hBz := World.below_ext w z
      have HP1 := hid (HP.out.below hBz)
      have HR1 := hid (HR.out.below hBz)
      have HKz := hid hBz
      generalize (w.ext z) = w1 at *
      clear hBz r7 r8 r9 r11 r12 r0 c0 c3 hrl hpl
      obtain ⟨no, nc, hnv⟩ := HP1.out.bn.val
      obtain ⟨nd, hnd2⟩ : ∃ y, S.nd.length = y := ⟨_, rfl⟩
      have r0 : w1.cell? ⟨rb, 0, none⟩ = some (.pointer (some ⟨N.p, 0, none⟩)) := HR1.out.b.is 0 (by omega)
      have c3 := HP1.out.c3
      have c4 := HP1.out.c4
      rw [hnv, hnd2] at c4
      have hrl := HR1.out.b.lt
      have hpl := HP1.out.bp.lt
      have MS := hid (fun (w' : World) (h : Below w1.heap.size w1 w') => mset_any N.kb N.mb S.ms n (fun x => S.seen x = true) lab st (nd : Int) ⟨by omega, m3⟩ hms2 ⟨by omega, by omega⟩ (by omega) w' (HP1.out.below h).bk)
      have HNV := hid hnv
      have HND := hid hnd2
      clear hnv
      first | with_reducible refine wp_region_tail_ext2 16 (by kernel_rfl) (by kernel_rfl) ?_ | refine wp_region_tail_ext 16 (by kernel_rfl) (by kernel_rfl) ?_
      simp only [List.take_succ_cons, List.take_zero, List.drop_succ_cons, List.drop_zero]
      repeat (go_big_quiet_step (fail))
      refine wpQuiet_nil ?_
      rintro _ ⟨z, rfl⟩
      go_wp2_with (first | (go_at_call 96; refine (MS.out _ (by (repeat (first | with_reducible exact Below.rf _ | with_reducible exact World.below_ext _ _ | with_reducible refine Below.ex ?_ _ | with_reducible refine Below.al ?_ _ | with_reducible refine Below.setCell ?_ (by simp) _ | with_reducible refine Below.drew ?_)))).mono ?_; rintro e w2 ⟨rfl, k2, kk2⟩))
      rw [seen_put] at k2
      have hBy := World.below_ext w1 z
      have hk12 : KeptL lab (fun x => x = 9) w1 w2 := (KeptL.of_below hBy).trans kk2
      have K2 := hid (And.intro (HP1.out.bp.keptL hk12 (by rw [HP1.out.lp]; omega)) (And.intro (HP1.out.bh.keptL hk12 (by omega)) (And.intro (HP1.out.bn.keptL hk12 (by omega)) (And.intro k2 (And.intro (HR1.out.keptL hk12 (fun x hx => by omega)) hk12)))))
      clear hBy k2 kk2 hk12 r0 c3 c4 hrl hpl
      have r0 : w2.cell? ⟨rb, 0, none⟩ = some (.pointer (some ⟨N.p, 0, none⟩)) := K2.out.2.2.2.2.1.b.is 0 (by omega)
      have c4 : w2.cell? ⟨N.p, 4, none⟩ = some (.slice no nd nc) := by
        have := K2.out.1.is 4 (by omega)
        rw [← HND.out, ← HNV.out]
        exact this
      have hrl := K2.out.2.2.2.2.1.b.lt
      have hpl := K2.out.1.lt
      have HL2 : Hid (LAt w2 lab 7 4 (.slice no nd nc) nd (nrow S.nd)) := by
        have := K2.out.2.2.1
        rw [HNV.out, HND.out] at this
        exact this
      refine wp_region_tree 20 (fun w' => w'.cell? ⟨rb, 0, none⟩ = some (.pointer (some ⟨N.p, 0, none⟩)) ∧ w'.cell? ⟨N.p, 4, none⟩ = some (.slice no nd nc)) (.q 0 false (.q 1 false (.q 2 false (.q 3 true (.q 4 false (.q 5 false (.q 6 false (.q 7 true (.q 8 false (.q 9 false (.q 10 true (.q 11 false (.q 12 false (.q 13 false (.q 14 false (.q 15 false (.one 16 true (.one 17 true (.q 18 false (.q 19 false (.one 20 false .nil))))))))))))))))))))) (by kernel_rfl) (by kernel_rfl) (by kernel_rfl) ?_ ?_
      · simp [go_sem, ↓IntWalk.iteOmega, *]
      repeat (first | (refine wpTr_qf (v := ?_) rfl rfl ?_ ?_; rotate_left; focus (intro w; go_simp; (try (with_reducible rfl)); done); try simp only [List.getElem_toArray, List.getElem_cons_zero, List.getElem_cons_succ, Act.put, List.setIfInBounds_toArray, List.set_cons_zero, List.set_cons_succ]) | (refine wpTr_qt (v := ?_) rfl rfl ?_ ?_; rotate_left; focus (intro w hSw; (try dsimp only at hSw); go_simp; (try (with_reducible rfl)); done); try simp only [List.getElem_toArray, List.getElem_cons_zero, List.getElem_cons_succ, Act.put, List.setIfInBounds_toArray, List.set_cons_zero, List.set_cons_succ]))
      refine wpTr_one rfl rfl (fun K hK => ?_)
      go_simp
      refine hK.out _ _ (fun _ => by simp [go_sem, ↓IntWalk.iteOmega, *]) ?_
      clear hK K
      refine wpTr_one rfl rfl (fun K hK => ?_)
      refine wp_ls _ _ 104 143 (.agg #[.int .i64 (0), .int .i64 (0), .int .i64 (0), .int .i64 (0)]) 4 32 rfl Try.underlying104 (by kernel_rfl) rfl (by decide) lab 7 (.slice no nd nc) nd (nrow S.nd) (by simp [go_sem]) (HL2.out.below (by (repeat (first | with_reducible exact Below.rf _ | with_reducible exact World.below_ext _ _ | with_reducible refine Below.ex ?_ _ | with_reducible refine Below.al ?_ _ | with_reducible refine Below.setCell ?_ (by simp) _ | with_reducible refine Below.drew ?_)))) w2.heap.size 1 1 (nrow [⟨c, o, l, p⟩]) (by decide) (by omega) (by omega) (by simp [go_sem]) rfl ?_ ?_ ?_
      · intro j u hj
        have hj2 := (List.getElem?_eq_some_iff.1 hj).1
        simp [nrow] at hj2
        rcases (by omega : j = 0 ∨ j = 1 ∨ j = 2 ∨ j = 3) with rfl | rfl | rfl | rfl <;> simp [nrow] at hj <;> subst hj <;> simp [go_sem, ↓IntWalk.iteOmega]
      · simp [nrow, Value.oneCell']
      intro v' w8 lb8 hls hlab hk8
      rw [← nrow_app] at hls
      obtain ⟨vo, vc, rfl⟩ := hls.val
      have hs8 := hk8.size
      simp only [World.size_alloc, World.size_drew] at hs8
      have hB2 : Below w2.heap.size w2 ((w2.alloc (Obj.cells #[.int .i64 (c), .int .i64 (o), .int .i64 (l), .int .i64 (p)] 143)).drew) := by (repeat (first | with_reducible exact Below.rf _ | with_reducible exact World.below_ext _ _ | with_reducible refine Below.ex ?_ _ | with_reducible refine Below.al ?_ _ | with_reducible refine Below.setCell ?_ (by simp) _ | with_reducible refine Below.drew ?_))
      have hk28 : KeptL lab (fun x => x = 7) w2 w8 := (KeptL.of_below hB2).trans hk8
      have hlab2 : ∀ j, j < w2.heap.size → lb8 j = lab j := fun j hj => hlab j (by simp; omega)
      have b8 := K2.out.1.keptL hk28 (by rw [HP1.out.lp]; omega)
      have s0 : w8.cell? ⟨rb, 0, none⟩ = some (.pointer (some ⟨N.p, 0, none⟩)) := (K2.out.2.2.2.2.1.keptL hk28 (fun x hx => by omega)).b.is 0 (by omega)
      have s4 : w8.cell? ⟨N.p, 4, none⟩ = some (.slice no nd nc) := by
        have := b8.is 4 (by omega)
        rw [← HND.out, ← HNV.out]
        exact this
      have z4 : w8.frozen? ⟨N.p, 4, none⟩ = false := b8.fz 4 (by omega)
      have hlp8 : lb8 N.p = 5 := (hlab2 _ hpl).trans HP1.out.lp
      have hk9 : KeptL lb8 (fun x => x = 5) w8 (w8.setCell ⟨N.p, 4, none⟩ (.slice vo (nd + 1) vc)) := (KeptL.refl lb8 (fun x => x = 5) w8).set hlp8 _
      have hk28' : KeptL lb8 (fun x => x = 7) w2 w8 := ⟨hk28.os, hk28.tape, hk28.output, hk28.size, fun j hj hn => hk28.block j hj (by rw [← hlab2 j hj]; exact hn)⟩
      have K8 := hid (And.intro (b8.set 4 (.slice vo (nd + 1) vc) (by omega)) (And.intro (((K2.out.2.1.relab hlab2).keptL hk28' (by omega)).keptL hk9 (by omega)) (And.intro (hls.keptL hk9 (by omega)) (And.intro (((K2.out.2.2.2.1.relab hlab2).keptL hk28' (by omega) (by omega)).keptL hk9 (by omega) (by omega)) (And.intro (((K2.out.2.2.2.2.1.relab (fun b hb hx => by rw [hlab2 b hb]; exact hx)).keptL hk28' (fun x hx => by omega)).keptL hk9 (fun x hx => by omega)) (And.intro hlp8 (And.intro hlab2 (And.intro hk28 hk9))))))))
      refine hK.out _ _ (fun _ => ⟨s0, s4⟩) ?_
      clear hK K hls hlab hk8 b8 hB2 hk28 hk28' hlab2 hlp8 hk9
      simp only [Act.put, List.setIfInBounds_toArray, List.set_cons_zero, List.set_cons_succ]
      repeat (first | (refine wpTr_qf (v := ?_) rfl rfl ?_ ?_; rotate_left; focus (intro w; go_simp; (try (with_reducible rfl)); done); try simp only [List.getElem_toArray, List.getElem_cons_zero, List.getElem_cons_succ, Act.put, List.setIfInBounds_toArray, List.set_cons_zero, List.set_cons_succ]) | (refine wpTr_qt (v := ?_) rfl rfl ?_ ?_; rotate_left; focus (intro w hSw; (try dsimp only at hSw); go_simp; (try (with_reducible rfl)); done); try simp only [List.getElem_toArray, List.getElem_cons_zero, List.getElem_cons_succ, Act.put, List.setIfInBounds_toArray, List.set_cons_zero, List.set_cons_succ]))
      refine wpTr_one rfl rfl (fun K hK => ?_)
      go_simp
      refine hK.out _ _ (fun h => by cases h) ?_
      clear hK K
      refine wpTr_nil ?_
      refine NoPanic.normal ?_
      generalize (w8.setCell ⟨N.p, 4, none⟩ (.slice vo (nd + 1) vc)) = w9 at *
      clear r0 c4 hrl hpl s0 s4 z4 HL2 hs8
      have r0 : w9.cell? ⟨rb, 0, none⟩ = some (.pointer (some ⟨N.p, 0, none⟩)) := K8.out.2.2.2.2.1.b.is 0 (by omega)
      have c4 : w9.cell? ⟨N.p, 4, none⟩ = some (.slice vo (nd + 1) vc) := by
        rw [K8.out.1.is 4 (by omega), upd_at]
      have hrl := K8.out.2.2.2.2.1.b.lt
      have hpl := K8.out.1.lt
      have PU := hid (fun (w' : World) (h : Below w9.heap.size w9 w') => push_any N.p _ S.hp ⟨o + x, x, nd⟩ lb8 w' (K8.out.1.below h) (K8.out.2.1.below h) K8.out.2.2.2.2.2.1 (by omega))
      have PV : Hid (∀ (w' : World), Below w9.heap.size w9 w' → Calls Try.prog 97 #[.pointer (some ⟨N.p, 2, none⟩), .agg #[.int .i64 ((o : Int) + (x : Int)), .int .i64 (x), .int .i64 (nd)]] w' (pushPost lb8 N.p (upd (pcell N fb M.t S.st) 4 (.slice vo (nd + 1) vc)) (S.hp ++ [⟨o + x, x, nd⟩]) w')) := PU.out
      clear PU
      go_wp2
      first | with_reducible refine wp_region_tail_ext2 20 (by kernel_rfl) (by kernel_rfl) ?_ | refine wp_region_tail_ext 20 (by kernel_rfl) (by kernel_rfl) ?_
      simp only [List.take_succ_cons, List.take_zero, List.drop_succ_cons, List.drop_zero]
      repeat (go_big_quiet_step (fail))
      refine wpQuiet_nil ?_
      rintro _ ⟨z, rfl⟩
      go_wp2_with (first | (go_at_call 97; refine (PV.out _ (by (repeat (first | with_reducible exact Below.rf _ | with_reducible exact World.below_ext _ _ | with_reducible refine Below.ex ?_ _ | with_reducible refine Below.al ?_ _ | with_reducible refine Below.setCell ?_ (by simp) _ | with_reducible refine Below.drew ?_)))).mono ?_; rintro e w5 ⟨hv5, lb5, rfl, b5, l5, hl5, k5⟩))
      refine bodyPost_end (v := .tuple #[]) (by simp [results, Try.results86, go_sem]) rfl ?_
      obtain ⟨bp9, bh9, bn9, bk9, br9, lp9, hlab2, hk28, hk9⟩ := K8.out
      have hBq := World.below_ext w9 z
      have k95 : KeptL lb8 (fun x => x = 5 ∨ x = 6) w9 w5 := (KeptL.of_below hBq).trans k5
      have hl95 : ∀ j, j < w9.heap.size → lb5 j = lb8 j := fun j hj => hl5 j (Nat.lt_of_lt_of_le hj hBq.size)
      have k95' : KeptL lb5 (fun x => x = 5 ∨ x = 6) w9 w5 := ⟨k95.os, k95.tape, k95.output, k95.size, fun j hj hn => k95.block j hj (by rw [← hl95 j hj]; exact hn)⟩
      have e1 := HKz.out.size
      have e2 := K2.out.2.2.2.2.2.size
      have e3 := hk28.size
      have e4 := hk9.size
      refine ⟨lb5, ⟨N.p, hv5, .slice vo (nd + 1) vc, N.kb, N.mb⟩, n + 1, rfl, ⟨b5.congr (fun i hi => ?_), ?_, ?_, (bk9.relab hl95).keptL k95' (by omega) (by omega), (hl95 _ bp9.lt).trans lp9⟩, rfl, Nat.le_refl _, fun j hj => (hl95 j (by omega)).trans (hlab2 j (by omega)), ?_⟩
      · match i with
        | 0 => rfl
        | 1 => rfl
        | 2 => rfl
        | 3 => rfl
        | 4 => rfl
        | j + 5 => simp [upd, pcell]
      · rw [HND.out]; exact l5
      · have := bn9.of k95.size (fun b h1 h2 => k95.block b h1 (by rw [h2]; omega)) hl95
        rw [List.length_append, HND.out]
        exact this
      · have a1 : KeptL lab scrL w w8 := ((KeptL.of_below HKz.out).trans (K2.out.2.2.2.2.2.mono (fun x hx => by unfold scrL; omega))).trans (hk28.mono (fun x hx => by unfold scrL; omega))
        have b1 : KeptL lb8 scrL w8 w5 := (hk9.mono (fun x hx => by unfold scrL; omega)).trans (k95.mono (fun x hx => by unfold scrL; omega))
        exact a1.trans' b1 (fun i hi => hlab2 i (by omega))
end Go.Proofs.Qxb6500716a
