/-
  Remaining: the walk.
-/
import Derived.Test.Qxb6500716aEb
import Derived.Test.Qxb6500716aPy
namespace Go.Proofs.Qxb6500716a
open Go.RowKit Go.Maps
set_option linter.unusedSimpArgs false
set_option linter.unusedVariables false
set_option maxRecDepth 20000
set_option maxHeartbeats 4000000
/-- What 'Remaining' answers: rows that are no less than the estimate. -/
def remPost (F : FS) (bay : Int) (gl : List (Int × Int)) (w : World) (e : Ending) (w' : World) : Prop :=
  ∃ LB rb L, e = .returned (.slice (some ⟨LB, 0, none⟩) (gl.length + 1) (gl.length + 1)) ∧ RmS w LB gl.length F.n rb (gl.length + 1) L w' ∧ Lok F bay gl L
def farL (i j : Nat) : Nat → Nat → Nat := fun l c => if l = i ∧ ¬ c < j then 0 else 1073741824
set_option maxHeartbeats 40000000 in
theorem remain_any (mb fb : Nat) (F : FS) (tv : Value) (lab : Nat → Nat) (r : Int) (gv : Value) (gl : List (Int × Int)) (w : World) (hF : FAt w lab fb F) (hm : Blk w mb 2 (fc (.pointer (some ⟨fb, 0, none⟩)) tv undef undef)) (hg : GAt w lab gv gl) (hok : F.gok gl) (hby : 0 ≤ (F.park r).1 ∧ (F.park r).1 < (F.n : Int)) :
    Calls Try.prog 28 #[.pointer (some ⟨mb, 0, none⟩), .int .i64 (r), gv] w (remPost F (F.park r).1 gl w) := by
  have HF := hid hF
  have HG := hid hg
  have HOK := hid hok
  have c0 : w.cell? ⟨mb, 0, none⟩ = some (.pointer (some ⟨fb, 0, none⟩)) := hm.is 0 (by omega)
  have hml := hm.lt
  have CL := hid (fun (w' : World) (h : Below w.heap.size w w') => cells_any fb F lab w' (hF.below h))
  have PK := hid (fun (w' : World) (h : Below w.heap.size w w') => parking_any fb F lab r w' (hF.below h))
  have NR := hid (fun (c : Nat) (hc : c < F.n) => near_val fb F lab c hc w hF)
  have hn384 := hF.ok.n
  have hk16 := hok.1
  obtain ⟨go, gc, hgv, hgc⟩ := hg.ex
  obtain ⟨bay, hbay⟩ : ∃ y, (F.park r).1 = y := ⟨_, rfl⟩
  obtain ⟨bb, hbb⟩ : ∃ y, (F.park r).2 = y := ⟨_, rfl⟩
  rw [hbay] at hby
  rw [hbay, hbb] at PK
  rw [hbay]
  obtain ⟨post, hpo⟩ : ∃ y, remPost F bay gl w = y := ⟨_, rfl⟩
  rw [hpo]
  have HPO := hid hpo
  obtain ⟨K, hK⟩ : ∃ k, gl.length = k := ⟨_, rfl⟩
  rw [hK] at hgv hgc hk16
  have HK := hid hK
  obtain ⟨n, hn⟩ : ∃ k, F.n = k := ⟨_, rfl⟩
  rw [hn] at CL hn384 hby
  have HN := hid hn
  subst hgv
  obtain ⟨Zs, hs1, hs2, hs3⟩ := make_is (P := Try.prog) 65 32 (.slice none 0 0) 1 24 Try.underlying65 (by kernel_rfl) (K + 1) (by omega) (by omega)
  obtain ⟨Zr, hr1, hr2, hr3⟩ := make_is (P := Try.prog) 32 3 (.int .i64 (0)) 1 8 Try.underlying32 (by kernel_rfl) n (by omega) (by omega)
  have hs4 : ∀ (kl kc : IntKind) (w : World), (Instr.makeSlice 65 (.int kl ((K : Int) + 1)) (.int kc ((K : Int) + 1))).run Try.prog w = .ok (.slice (some ⟨w.heap.size, 0, none⟩) (K + 1) (K + 1)) (w.alloc (.cells Zs 32)) := hs3
  have HZS := hid hs2
  have HZR := hid hr2
  clear hF hm hg hok hbay hbb hpo hK hn hs1 hs2 hs3 hr1 hr2
  go_enter Try.func28, Try.ntmps28
  go_wp2
  refine wp_nm fun w1 hw1 => ?_
  have R0 : Hid (RmS w w.heap.size K n (fun _ => 0) 0 (fun _ _ => 1073741824) w1) := by
    unfold Hid
    rw [hw1]
    refine ⟨⟨by simp, fun l hl => ?_, fun i hi => by simp [go_sem, ↓IntWalk.iteOmega]⟩, fun l hl => by omega, Nat.le_refl _, fun l hl => by omega, fun l l' hl => by omega, (Below.rf _).al _⟩
    rw [if_neg (by omega)]
    simp [go_sem, ↓IntWalk.iteOmega, HZS.out, hl, made1]
  clear hw1
  obtain ⟨LB, hLB⟩ : ∃ y, w.heap.size = y := ⟨_, rfl⟩
  rw [hLB] at R0 ⊢
  have hlbw : w.heap.size ≤ LB := by omega
  clear hLB hs4
  go_loopw [26] (fun x wr => ∃ (i : Nat) (rb : Nat → Nat), x = .int .i64 (i) ∧ i ≤ K + 1 ∧ RmS w LB K n rb i (fun _ _ => 1073741824) wr) (fun x _ => K + 1 - (intOf x).toNat)
  case atStart => exact ⟨0, _, rfl, Nat.zero_le _, R0.out⟩
  case round =>
    obtain ⟨i, rb, rfl, hi, hR⟩ := hrel
    clear R0 w1
    have HR := hid hR
    have hc0 : wr.cell? ⟨mb, 0, none⟩ = some (.pointer (some ⟨fb, 0, none⟩)) := (World.cell?_of_block (hR.k.block mb hml)).trans c0
    have hml' : mb < wr.heap.size := Nat.lt_of_lt_of_le hml hR.k.size
    have hll := hR.lb.lt
    have CLr := hid (CL.out wr hR.k)
    by_cases hik : i < K + 1
    · have di : decide ((i : Int) < (K : Int) + 1) = true := by simp; omega
      have din : decide (i < K + 1) = true := by simp; omega
      have lc := hR.lb.is i hik
      rw [if_neg (by omega)] at lc
      have lz := hR.lb.fz i hik
      clear hR
      go_wp2_with (first | (go_at_call 30; refine CLr.out.mono ?_; rintro e w' ⟨rfl, hw'⟩; obtain rfl := hw'.symm))
      refine wp_nm fun w2 hw2 => ?_
      have hbr : ∀ l, l < i → rb l ≠ wr.heap.size := fun l hl => by have := (HR.out.row l hl).lt; omega
      have R2 : RmS w LB K n (upd rb i wr.heap.size) (i + 1) (farL i 0) w2 := by
        have ha : RmS w LB K n rb i (fun _ _ => 1073741824) (wr.alloc (Obj.cells Zr 3)) := HR.out.below ((Below.rf _).al _)
        have hb : Blk (wr.alloc (Obj.cells Zr 3)) wr.heap.size n (fun c => .int .i64 (((fun _ => 0) c : Nat))) := ⟨by simp, fun c hc => by simp [go_sem, ↓IntWalk.iteOmega, HZR.out, hc, made1], fun c hc => by simp [go_sem, ↓IntWalk.iteOmega]⟩
        have := ha.add hik hb HR.out.k.size (by omega) hbr
        rw [show w2 = (wr.alloc (Obj.cells Zr 3)).setCell ⟨LB, i, none⟩ (.slice (some ⟨wr.heap.size, 0, none⟩) n n) from by rw [hw2]; simp [go_sem, ↓IntWalk.iteOmega, hll]]
        refine this.congr (fun l c hl hc => ?_)
        unfold farL
        by_cases e : l = i
        · subst e; rw [upd_at, if_pos ⟨rfl, by omega⟩]
        · rw [upd_ne _ _ e, if_neg (fun x => e x.1)]
      obtain ⟨b, hb⟩ : ∃ y, wr.heap.size = y := ⟨_, rfl⟩
      rw [hb] at R2 ⊢
      have HR2 := hid R2
      clear R2 hw2 hbr lc lz HR hc0 hml' hll CLr hb wr
      go_loopw [43] (fun x wi => ∃ j : Nat, x = .int .i64 (j) ∧ j ≤ n ∧ RmS w LB K n (upd rb i b) (i + 1) (farL i j) wi) (fun x _ => n - (intOf x).toNat)
      case atStart => exact ⟨0, rfl, Nat.zero_le _, HR2.out⟩
      case round =>
        obtain ⟨j, rfl, hj, hRi⟩ := hrel
        clear HR2
        have HRi := hid hRi
        by_cases hjn : j < n
        · have dj : decide ((j : Int) < (n : Int)) = true := by simp; omega
          have djn : decide (j < n) = true := by simp; omega
          have lc := hRi.lb.is i (by omega)
          rw [if_pos (by omega), upd_at] at lc
          have hll := hRi.lb.lt
          have rr := hRi.row i (by omega)
          rw [upd_at] at rr
          have rc := rr.is j hjn
          have rz := rr.fz j hjn
          have rl := rr.lt
          clear hRi rr
          go_wp2
          go_roundw
          case rel =>
            refine ⟨j + 1, by go_num, by omega, ?_⟩
            have := HRi.out.set i j 1073741824 (by omega) hjn
            rw [upd_at] at this
            refine this.congr (fun l c hl hc => ?_)
            unfold set2 farL
            by_cases e : l = i ∧ c = j
            · rw [if_pos e, if_neg (by omega)]
            · rw [if_neg e]
              by_cases e2 : l = i ∧ ¬ c < j
              · rw [if_pos e2, if_pos ⟨e2.1, by omega⟩]
              · rw [if_neg e2, if_neg (by omega)]
          case measure => (simp [intOf] <;> omega)
        · have dj : decide ((j : Int) < (n : Int)) = false := by simp; omega
          have djn : decide (j < n) = false := by simp; omega
          clear hRi
          go_wp2
          go_roundw
          case rel =>
            refine ⟨i + 1, upd rb i b, by go_num, by omega, HRi.out.congr (fun l c hl hc => ?_)⟩
            unfold farL
            rw [if_neg (by omega)]
          case measure => (simp [intOf] <;> omega)
    · have di : decide ((i : Int) < (K : Int) + 1) = false := by simp; omega
      have din : decide (i < K + 1) = false := by simp; omega
      obtain rfl : i = K + 1 := by omega
      have rK := (hR.row K (by omega)).is bay.toNat (by omega)
      have rz := (hR.row K (by omega)).fz bay.toNat (by omega)
      have rl := (hR.row K (by omega)).lt
      have lK := hR.lb.is K (by omega)
      rw [if_pos (by omega)] at lK
      have PKr := hid (PK.out wr hR.k)
      obtain ⟨bn, rfl⟩ : ∃ bn : Nat, bay = bn := ⟨bay.toNat, by omega⟩
      rw [Int.toNat_natCast] at rK rz
      clear hR
      go_wp2_with (first | (go_at_call 20; refine PKr.out.mono ?_; rintro e w' ⟨rfl, hw'⟩; obtain rfl := hw'.symm))
      refine wp_nm fun w2 hw2 => ?_
      have R2 : Hid (RmS w LB K n rb (K + 1) (set2 (fun _ _ => 1073741824) K bn 0) w2) := by
        unfold Hid
        rw [hw2]
        exact HR.out.set K bn 0 (by omega) (by omega)
      have L2 : Hid (Lok F bn gl (set2 (fun _ _ => 1073741824) K bn 0)) := by
        have h0 : Lok F bn gl (fun _ _ => 1073741824) := ⟨fun l c _ _ => by have := est_bd HF.out.ok (bay := (bn : Int)) HOK.out c l; omega, fun l c _ _ => Nat.le_refl _⟩
        refine h0.set K bn 0 ?_ (by omega)
        have := est_home HF.out.ok (bn : Int) gl
        rw [Int.toNat_natCast, HK.out] at this
        omega
      clear hw2 rK rz rl lK PKr HR hc0 hml' hll CLr wr
      go_wp2
      go_loopw [13] (fun v wr => ∃ (b : Bool) (L : Nat → Nat → Nat), v = .bool b ∧ RmS w LB K n rb (K + 1) L wr ∧ Lok F bn gl L) (fun v wr => 2 * rsum wr rb (K + 1) n + bOf v)
      case atStart => exact ⟨true, _, rfl, R2.out, L2.out⟩
      case round =>
        obtain ⟨b, L, rfl, hR, hL⟩ := hrel
        clear R2 L2 w2
        have HR := hid hR
        have HL := hid hL
        clear hR hL
        cases b with
        | false =>
          go_wp2
          rw [← HPO.out]
          refine ⟨LB, rb, L, by rw [HK.out]; rfl, ?_, HL.out⟩
          rw [HK.out, HN.out]
          exact HR.out
        | true =>
          obtain ⟨S0, hS0⟩ : ∃ y, sum2 L (K + 1) n = y := ⟨_, rfl⟩
          have HS0 : Hid (rsum wr rb (K + 1) n = S0) := HR.out.sum.trans hS0
          have HSL := hid hS0
          clear hS0
          obtain ⟨wO, rfl⟩ : ∃ y, y = wr := ⟨_, rfl⟩
          go_wp2
          go_loopw [13, 14] (fun v y wr => ∃ (b : Bool) (l : Nat) (L1 : Nat → Nat → Nat), v = .bool b ∧ y = .int .i64 (l) ∧ l ≤ K + 1 ∧ RmS w LB K n rb (K + 1) L1 wr ∧ Lok F bn gl L1 ∧ sum2 L1 (K + 1) n + bOf (.bool b) ≤ S0) (fun _ y _ => K + 1 - (intOf y).toNat)
          case atStart => exact ⟨false, 0, L, rfl, rfl, Nat.zero_le _, HR.out, HL.out, by rw [HSL.out]; exact Nat.le_refl _⟩
          case round =>
            obtain ⟨b, l, L1, rfl, rfl, hl, hR1, hL1, hs1⟩ := hrel
            have HR1 := hid hR1
            have HL1 := hid hL1
            clear hR1 hL1 HR HL HSL
            by_cases hlK : l ≤ K
            · have dl : decide ((l : Int) ≤ (K : Int)) = true := by simp; omega
              have dln : decide (l ≤ K) = true := by simp; omega
              obtain ⟨wP, rfl⟩ : ∃ y, y = wr := ⟨_, rfl⟩
              have HS1 := hid hs1
              clear hs1
              go_wp2
              go_loopw [13, 15] (fun v y wr => ∃ (b : Bool) (c : Nat) (L2 : Nat → Nat → Nat), v = .bool b ∧ y = .int .i64 (c) ∧ c ≤ n ∧ RmS w LB K n rb (K + 1) L2 wr ∧ Lok F bn gl L2 ∧ sum2 L2 (K + 1) n + bOf (.bool b) ≤ S0) (fun _ y _ => n - (intOf y).toNat)
              case atStart => exact ⟨b, 0, L1, rfl, rfl, Nat.zero_le _, HR1.out, HL1.out, HS1.out⟩
              case round =>
                obtain ⟨b2, c, L2, rfl, rfl, hc, hR2, hL2, hs2⟩ := hrel
                have HR2 := hid hR2
                have HL2 := hid hL2
                have HS2 := hid hs2
                have CLr := hid (CL.out wr hR2.k)
                have hc0 : wr.cell? ⟨mb, 0, none⟩ = some (.pointer (some ⟨fb, 0, none⟩)) := (World.cell?_of_block (hR2.k.block mb hml)).trans c0
                have hml' : mb < wr.heap.size := Nat.lt_of_lt_of_le hml hR2.k.size
                clear HR1 HL1 HS1 hs2
                by_cases hcn : c < n
                · have dc : decide ((c : Int) < (n : Int)) = true := by simp; omega
                  have dcn : decide (c < n) = true := by simp; omega
                  have lc := hR2.lb.is l (by omega)
                  rw [if_pos (by omega)] at lc
                  have hll := hR2.lb.lt
                  have rr := hR2.row l (by omega)
                  have rc := rr.is c hcn
                  have rz := rr.fz c hcn
                  have rl := rr.lt
                  have hb0 := hL2.lo l c (by rw [HK.out]; omega) (by rw [HN.out]; omega)
                  have hb1 := hL2.hi l c (by rw [HK.out]; omega) (by rw [HN.out]; omega)
                  obtain ⟨nv, hni, hnc⟩ := NR.out c (by rw [HN.out]; omega)
                  have NRc := hid (hnc wr (KeptL.of_below hR2.k))
                  have HNI := hid hni
                  obtain ⟨no, ncap, hnv, hncc⟩ := hni.ex
                  have hnl := HF.out.ok.nearL c
                  rw [HN.out] at hnl
                  obtain ⟨nl, hnl2⟩ : ∃ y, (F.near c).length = y := ⟨_, rfl⟩
                  rw [hnl2] at hnv hncc hnl
                  subst hnv
                  have HNL := hid hnl2
                  clear hR2 hL2 rr hni hnc hnl2
                  go_wp2_with (first | (go_at_call 30; refine CLr.out.mono ?_; rintro e w' ⟨rfl, hw'⟩; obtain rfl := hw'.symm) | (go_at_call 32; refine NRc.out.mono ?_; rintro e w' ⟨rfl, hw'⟩; obtain rfl := hw'.symm))
                  obtain ⟨wQ, rfl⟩ : ∃ y, y = wr := ⟨_, rfl⟩
                  go_loopw [16, 98] (fun v y wi => ∃ bs j : Nat, v = .int .i64 (bs) ∧ y = .int .i64 (j) ∧ j ≤ nl ∧ F.est bn gl c l ≤ bs ∧ bs ≤ L2 l c ∧ wi = wQ) (fun _ y _ => nl - (intOf y).toNat)
                  case atStart => exact ⟨L2 l c, 0, rfl, rfl, Nat.zero_le _, hb0, Nat.le_refl _, rfl⟩
                  case round =>
                    obtain ⟨bs, j, rfl, rfl, hj, hx1, hx2, hwr⟩ := hrel
                    obtain rfl := hwr.symm
                    by_cases hjn : j < nl
                    · have dj : decide ((j : Int) < (nl : Int)) = true := by simp; omega
                      have djn : decide (j < nl) = true := by simp; omega
                      have hjl : j < (F.near c).length := by rw [HNL.out]; exact hjn
                      have hx : (F.near c)[j]? = some (F.near c)[j] := List.getElem?_eq_getElem hjl
                      have hmem := List.getElem_mem hjl
                      have htb := HF.out.ok.near c _ hmem
                      generalize (F.near c)[j] = to at *
                      obtain ⟨tn2, rfl⟩ : ∃ tn2 : Nat, to = tn2 := ⟨to.toNat, by omega⟩
                      have htn : tn2 < F.n := by omega
                      have hnear := est_near HF.out.ok bn gl c tn2 l htn hmem
                      have hlo := HL2.out.lo l tn2 (by rw [HK.out]; omega) htn
                      have hhi := HL2.out.hi l tn2 (by rw [HK.out]; omega) htn
                      rw [HN.out] at htn
                      have rt := (HR2.out.row l (by omega)).is tn2 htn
                      obtain ⟨nb2, na, n', cap', hv, hbl2, -, cq⟩ := HNI.out.row j _ hx
                      simp only [Value.slice.injEq] at hv
                      obtain ⟨rfl, -, -⟩ := hv
                      have cq' : wQ.cell? ⟨nb2, na + j, none⟩ = some (.int .i64 (tn2)) := (World.cell?_of_block (HR2.out.k.block nb2 hbl2)).trans cq
                      have hbl3 : nb2 < wQ.heap.size := Nat.lt_of_lt_of_le hbl2 HR2.out.k.size
                      obtain ⟨mx, hmx⟩ : ∃ y, min bs (1 + L2 l tn2) = y := ⟨_, rfl⟩
                      have hmin := fun (w : World) (ty : TypeId) => run_min w (bs : Int) (1 + (L2 l tn2 : Int)) (mx : Int) (by omega) ty
                      have HMX := hid hmx
                      have HX := hid (And.intro hx1 (And.intro hx2 (And.intro hnear hlo)))
                      clear hmx hx hmem htb hnear hlo cq hx1 hx2
                      go_wp2
                      go_roundw
                      case rel =>
                        obtain ⟨p1, p2, p3, p4⟩ := HX.out
                        have p5 := HMX.out
                        exact ⟨mx, j + 1, rfl, by go_num, by omega, by omega, by omega, trivial⟩
                      case measure => (simp [intOf] <;> omega)
                    · have dj : decide ((j : Int) < (nl : Int)) = false := by simp; omega
                      have djn : decide (j < nl) = false := by simp; omega
                      by_cases hlk : l < K
                      · have dlk : decide ((l : Int) < (K : Int)) = true := by simp; omega
                        have dlkn : decide (l < K) = true := by simp; omega
                        have hgl : l < gl.length := by rw [HK.out]; exact hlk
                        have hgx : gl[l]? = some gl[l] := List.getElem?_eq_getElem hgl
                        have hgm := HOK.out.2 _ (List.getElem_mem hgl)
                        generalize gl[l] = g at *
                        obtain ⟨gb, gn', gcap, hgv2, hgbl, -, y0, y1⟩ := HG.out.row l _ hgx
                        simp only [Value.slice.injEq] at hgv2
                        obtain ⟨rfl, -, -⟩ := hgv2
                        have y0' := (World.cell?_of_block (HR2.out.k.block gb hgbl)).trans y0
                        have y1' := (World.cell?_of_block (HR2.out.k.block gb hgbl)).trans y1
                        have hgbl2 : gb < wQ.heap.size := Nat.lt_of_lt_of_le hgbl HR2.out.k.size
                        by_cases hgc2 : g.1 = (c : Int)
                        · have hge := est_goal HF.out.ok bn gl c l g hgx hgc2
                          have hlo := HL2.out.lo (l + 1) c (by rw [HK.out]; omega) (by rw [HN.out]; omega)
                          have hhi := HL2.out.hi (l + 1) c (by rw [HK.out]; omega) (by rw [HN.out]; omega)
                          have lc1 := HR2.out.lb.is (l + 1) (by omega)
                          rw [if_pos (by omega)] at lc1
                          have rt := (HR2.out.row (l + 1) (by omega)).is c hcn
                          have rtl := (HR2.out.row (l + 1) (by omega)).lt
                          obtain ⟨g1, g2⟩ := g
                          simp only at hgc2 y0' y1' hgm hge
                          subst hgc2
                          obtain ⟨gd, rfl⟩ : ∃ y : Nat, g2 = y := ⟨g2.toNat, by omega⟩
                          rw [Int.toNat_natCast] at hge
                          have dg : ((c : Int) == (c : Int)) = true := by simp
                          obtain ⟨mx, hmx⟩ : ∃ y, min bs (gd + L2 (l + 1) c) = y := ⟨_, rfl⟩
                          have hmin := fun (w : World) (ty : TypeId) => run_min w (bs : Int) ((gd : Int) + (L2 (l + 1) c : Int)) (mx : Int) (by omega) ty
                          replace hx1 : F.est bn gl c l ≤ mx := by omega
                          replace hx2 : mx ≤ L2 l c := by omega
                          clear hmx hgx y0 y1 hge hlo HNI NRc CLr hc0 hml'
                          go_wp2
                          first | with_reducible refine wp_region_ext2 (by kernel_rfl) (by kernel_rfl) ?_ | refine wp_region_ext (by kernel_rfl) (by kernel_rfl) ?_
                          repeat (go_big_quiet_step (fail))
                          refine wpQuiet_nil ?_
                          rintro _ ⟨z, rfl⟩
                          have hBq := World.below_ext wQ z
                          have HR3 := hid (HR2.out.below hBq)
                          generalize wQ.ext z = wR at *
                          clear HR2 lc hll rc rz rl lc1 rt rtl y0' y1' hgbl2
                          have HR2 := HR3
                          have lc := HR2.out.lb.is l (by omega)
                          rw [if_pos (by omega)] at lc
                          have hll := HR2.out.lb.lt
                          have rc := (HR2.out.row l (by omega)).is c hcn
                          have rz := (HR2.out.row l (by omega)).fz c hcn
                          have rl := (HR2.out.row l (by omega)).lt
                          clear HR3 hBq hmin
                          have HX := hid (And.intro hx1 hx2)
                          by_cases hbl : mx < L2 l c
                          · have db : decide ((mx : Int) < (L2 l c : Int)) = true := by simp; omega
                            have dbn : decide (mx < L2 l c) = true := by simp; omega
                            go_wp2
                            go_roundw
                            case rel =>
                              refine ⟨true, c + 1, set2 L2 l c (mx), rfl, by go_num, by omega, HR2.out.set l c (mx) (by omega) hcn, HL2.out.set l c (mx) HX.out.1 (by have := HX.out.2; omega), ?_⟩
                              have h1 := sum2_dec L2 (l := l) (c := c) (v := mx) (m := K + 1) (n := n) (by omega) hcn hbl
                              have h2 := HS2.out
                              have h3 : bOf (.bool true) = 1 := rfl
                              omega
                            case measure => (simp [intOf] <;> omega)
                          · have db : decide ((mx : Int) < (L2 l c : Int)) = false := by simp; omega
                            have dbn : decide (mx < L2 l c) = false := by simp; omega
                            go_wp2
                            go_roundw
                            case rel => exact ⟨b2, c + 1, L2, rfl, by go_num, by omega, HR2.out, HL2.out, HS2.out⟩
                            case measure => (simp [intOf] <;> omega)
                        · have dg : (g.1 == (c : Int)) = false := by simp [hgc2]
                          clear hgx y0 y1 y1' HNI NRc CLr hc0 hml' hgc2 hgm
                          have HX := hid (And.intro hx1 hx2)
                          by_cases hbl : bs < L2 l c
                          · have db : decide ((bs : Int) < (L2 l c : Int)) = true := by simp; omega
                            have dbn : decide (bs < L2 l c) = true := by simp; omega
                            go_wp2
                            go_roundw
                            case rel =>
                              refine ⟨true, c + 1, set2 L2 l c (bs), rfl, by go_num, by omega, HR2.out.set l c (bs) (by omega) hcn, HL2.out.set l c (bs) HX.out.1 (by have := HX.out.2; omega), ?_⟩
                              have h1 := sum2_dec L2 (l := l) (c := c) (v := bs) (m := K + 1) (n := n) (by omega) hcn hbl
                              have h2 := HS2.out
                              have h3 : bOf (.bool true) = 1 := rfl
                              omega
                            case measure => (simp [intOf] <;> omega)
                          · have db : decide ((bs : Int) < (L2 l c : Int)) = false := by simp; omega
                            have dbn : decide (bs < L2 l c) = false := by simp; omega
                            go_wp2
                            go_roundw
                            case rel => exact ⟨b2, c + 1, L2, rfl, by go_num, by omega, HR2.out, HL2.out, HS2.out⟩
                            case measure => (simp [intOf] <;> omega)
                      · have dlk : decide ((l : Int) < (K : Int)) = false := by simp; omega
                        have dlkn : decide (l < K) = false := by simp; omega
                        clear HNI NRc CLr hc0 hml'
                        have HX := hid (And.intro hx1 hx2)
                        by_cases hbl : bs < L2 l c
                        · have db : decide ((bs : Int) < (L2 l c : Int)) = true := by simp; omega
                          have dbn : decide (bs < L2 l c) = true := by simp; omega
                          go_wp2
                          go_roundw
                          case rel =>
                            refine ⟨true, c + 1, set2 L2 l c (bs), rfl, by go_num, by omega, HR2.out.set l c (bs) (by omega) hcn, HL2.out.set l c (bs) HX.out.1 (by have := HX.out.2; omega), ?_⟩
                            have h1 := sum2_dec L2 (l := l) (c := c) (v := bs) (m := K + 1) (n := n) (by omega) hcn hbl
                            have h2 := HS2.out
                            have h3 : bOf (.bool true) = 1 := rfl
                            omega
                          case measure => (simp [intOf] <;> omega)
                        · have db : decide ((bs : Int) < (L2 l c : Int)) = false := by simp; omega
                          have dbn : decide (bs < L2 l c) = false := by simp; omega
                          go_wp2
                          go_roundw
                          case rel => exact ⟨b2, c + 1, L2, rfl, by go_num, by omega, HR2.out, HL2.out, HS2.out⟩
                          case measure => (simp [intOf] <;> omega)
                · have dc : decide ((c : Int) < (n : Int)) = false := by simp; omega
                  have dcn : decide (c < n) = false := by simp; omega
                  clear hR2 hL2
                  go_wp2_with (first | (go_at_call 30; refine CLr.out.mono ?_; rintro e w' ⟨rfl, hw'⟩; obtain rfl := hw'.symm))
                  go_roundw
                  case rel => exact ⟨b2, l + 1, L2, rfl, by go_num, by omega, HR2.out, HL2.out, HS2.out⟩
                  case measure => (simp [intOf] <;> omega)
            · have dl : decide ((l : Int) ≤ (K : Int)) = false := by simp; omega
              have dln : decide (l ≤ K) = false := by simp; omega
              go_wp2
              go_roundw
              case rel => exact ⟨b, L1, rfl, HR1.out, HL1.out⟩
              case measure =>
                have h1 := HR1.out.sum
                have h2 := HS0.out
                have h3 : bOf (.bool true) = 1 := rfl
                omega
end Go.Proofs.Qxb6500716a
