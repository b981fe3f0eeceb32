/-
  QueriesForetellReservations: the law.
-/
import Derived.Test.Qxb6500717aFore
import Derived.Test.Qxb6500717aSame
import Derived.Test.Qxb6500717aClo2
namespace Go.Proofs.Qxb6500717a
open Go.RowKit
set_option linter.unusedSimpArgs false
set_option linter.unusedVariables false
set_option maxRecDepth 20000
set_option maxHeartbeats 40000000

theorem inPlace_any (c : Int) (w : World) : Calls Try.prog 34 #[.int .u8 c] w fun e w' => e = .returned (.bool (decide (c ≠ 2 ∧ c ≠ 3 ∧ c ≠ 4))) ∧ w' = w := by
  by_cases h2 : c = 2
  · subst h2
    go_enter Try.func34, Try.ntmps34
    go_wp2
    go_ret
    exact ⟨by simp, rfl⟩
  have n2 : (c != 2) = true := by simpa using h2
  have n2' : (c == 2) = false := by simpa using h2
  by_cases h3 : c = 3
  · subst h3
    go_enter Try.func34, Try.ntmps34
    go_wp2
    go_ret
    exact ⟨by simp, rfl⟩
  have n3 : (c != 3) = true := by simpa using h3
  have n3' : (c == 3) = false := by simpa using h3
  by_cases h4 : c = 4
  · subst h4
    go_enter Try.func34, Try.ntmps34
    go_wp2
    go_ret
    exact ⟨by simp, rfl⟩
  have n4 : (c != 4) = true := by simpa using h4
  have n4' : (c == 4) = false := by simpa using h4
  go_enter Try.func34, Try.ntmps34
  go_wp2
  go_ret
  exact ⟨by simp [h2, h3, h4], rfl⟩

/-- What is written with labels that old blocks do not bear leaves the old blocks. -/
theorem kept_low {wB w7 w8 : World} {lab2 : Nat → Nat} {A : Nat → Prop} (h : Below wB.heap.size wB w7) (hk : KeptL lab2 A w7 w8) (hl : ∀ j, j < wB.heap.size → lab2 j = 0) (h0 : ¬ A 0) : Below wB.heap.size wB w8 :=
  ⟨by rw [hk.os, h.os], by rw [hk.tape, h.tape], by rw [hk.output, h.output], Nat.le_trans h.size hk.size, fun j hj => by
    rw [hk.block j (by have := h.size; omega) (by rw [hl j hj]; exact h0), h.block j hj]⟩

theorem ext_below {f : FuncId} {args : Array Value} {w : World} {v : Ending} (h : Calls Try.prog f args w fun e w' => e = v ∧ ∃ z, w' = w.ext z) : Calls Try.prog f args w fun e w' => e = v ∧ Below w.heap.size w w' :=
  h.mono (fun e w' hh => ⟨hh.1, by obtain ⟨z, hz⟩ := hh.2; rw [hz]; exact World.below_ext _ _⟩)
theorem clone_named (M : TabM) (T : TabS) (lab : Nat → Nat) (w : World) (h : TAt w lab M T) (X : World → Prop) (hX : X w) : Calls Try.prog 29 #[.pointer (some ⟨M.t, 0, none⟩)] w (fun e w' => ∃ wB, X wB ∧ clonePost T wB e w') :=
  (clone_any M T lab w h).mono (fun e w' hp => ⟨w, hX, hp⟩)
theorem law8 (sb so n cap : Nat) (o : Nat → Opr) (lao : Nat → Option Addr) (llen lcap : Nat → Nat) (w : World) (hS : Scr w sb so n o lao llen lcap) (hn : n ≤ 9223372036854775807) :
    Calls Try.prog 8 #[.slice (some ⟨sb, so, none⟩) n cap] w fun e w' => e = .returned (.bool true) ∧ Below w.heap.size w w' := by
  have HS := hid hS
  have SM := hid (small_any sb so n cap o lao llen lcap w hS hn)
  clear hS
  go_enter Try.func8, Try.ntmps8
  go_wp2_with (go_at_call 9; refine hold ?_)
  unfold Hid
  refine SM.out.mono ?_
  rintro e w1 ⟨⟨b, rfl, hsm⟩, hw1⟩
  obtain rfl : w = w1 := hw1.symm
  clear hw1 SM
  cases b with
  | false =>
    go_wp2
    go_ret
    exact ⟨rfl, Below.rf _⟩
  | true =>
  obtain ⟨hn1, hn2⟩ := hsm rfl
  have HN2 := hid hn2
  clear hsm hn2
  go_wp2_with (go_at_call 10; refine hold ?_)
  unfold Hid
  refine (newDesk_any (fun _ => 0) w).mono ?_
  rintro e w2 ⟨d, lab2, rfl, hd2, hl2, hb2⟩
  have P0 := hid (show Play w w2 lab2 d 0 none from ⟨hd2, hb2, fun j hj => hl2 j hj⟩)
  clear hd2 hl2 hb2
  go_wp2
  go_loopw [23] (fun x wr => ∃ (i : Nat) (O : Option TabS) (lab : Nat → Nat), x = .int .i64 (i) ∧ i ≤ n ∧ Play w wr lab d i O ∧ OrdO O ∧ NocO O) (fun x _ => n - (intOf x).toNat)
  case atStart => exact ⟨0, none, lab2, rfl, by omega, P0.out, (fun T h => by cases h), (fun T h => by cases h)⟩
  case round =>
    obtain ⟨i, O, lab, rfl, hi, hp, hO, hN⟩ := hrel
    have HP := hid hp
    have HOO := hid hO
    have HNN := hid hN
    clear hO hN
    by_cases hlt : i < n
    · obtain ⟨q0, q1, q2, q3, q4, q5⟩ := (HS.out.below (Nat.le_refl _) hp.bl).cells i hlt
      have lsb := (HS.out.below (Nat.le_refl _) hp.bl).hsb
      clear hp
      go_wp2_with (go_at_call 11; refine hold ?_)
      unfold Hid
      refine (do_any (o i) (lao i) (llen i) (lcap i) lab d i O _ (HP.out.below (by (repeat (first | with_reducible exact Below.rf _ | with_reducible exact World.below_ext _ _ | with_reducible refine Below.ex ?_ _ | with_reducible refine Below.al ?_ _ | with_reducible refine Below.setCell ?_ (by simp) _ | with_reducible refine Below.drew ?_)))).dk (by omega) ((HP.out.below (by (repeat (first | with_reducible exact Below.rf _ | with_reducible exact World.below_ext _ _ | with_reducible refine Below.ex ?_ _ | with_reducible refine Below.al ?_ _ | with_reducible refine Below.setCell ?_ (by simp) _ | with_reducible refine Below.drew ?_)))).opr HS.out hlt (HN2.out i hlt))).mono ?_
      rintro e w5 ⟨c, v, lab5, rfl, hvs, hcode, hdk, hl5, hk5⟩
      have hp5 := (HP.out.below (by (repeat (first | with_reducible exact Below.rf _ | with_reducible exact World.below_ext _ _ | with_reducible refine Below.ex ?_ _ | with_reducible refine Below.al ?_ _ | with_reducible refine Below.setCell ?_ (by simp) _ | with_reducible refine Below.drew ?_)))).next hdk hl5 hk5
      have s5 := hk5.size
      simp at s5
      have lz : ¬ tagL (lab wr.heap.size) := by rw [HP.out.dk.hl _ (Nat.le_refl _)]; unfold tagL; omega
      have f0 := hk5.cell (b := wr.heap.size) 0 (by simp) lz
      have f1 := hk5.cell (b := wr.heap.size) 1 (by simp) lz
      have f2 := hk5.cell (b := wr.heap.size) 2 (by simp) lz
      have f3 := hk5.cell (b := wr.heap.size) 3 (by simp) lz
      have f4 := hk5.cell (b := wr.heap.size) 4 (by simp) lz
      simp [go_sem, ↓IntWalk.iteOmega] at f0 f1 f2 f3 f4
      have hCr := HS.out.hC i hlt
      clear hdk hl5 hk5 q0 q1 q2 q3 q4 q5 lsb hvs hcode lz
      have ho5 := HOO.out.step (fun T e => (HP.out.dk.bd T e).1) (o i)
      have hn5 := HNN.out.step HOO.out (fun T e => HP.out.dk.bd T e) (o i)
      generalize (stepO O (o i)).2 = O5 at hp5 ho5 hn5
      generalize (o i).K = Kv at f0
      generalize (o i).A = Av at f1
      generalize (o i).B = Bv at f2
      generalize (o i).C = Cv at f3 hCr
      generalize (o i).D = Dv at f4
      have HP5 := hid hp5
      have HO5 := hid ho5
      have HNO5 := hid hn5
      obtain ⟨tv, N, S, hd, hm, hcn, hto⟩ := hp5.dk.ex
      have c0 := hd.c0
      have ld := hd.lt
      have hbd := hp5.dk.bd
      clear hd hm hcn hp5 ho5 hn5
      cases O5 with
      | none =>
        have etv : tv = .pointer none := hto
        subst etv
        go_wp2
        first | with_reducible refine wp_region_ext2 (by kernel_rfl) (by kernel_rfl) ?_ | refine wp_region_ext (by kernel_rfl) (by kernel_rfl) ?_
        repeat (go_big_quiet_step (fail))
        refine wpQuiet_nil ?_
        rintro _ ⟨z, rfl⟩
        go_wp2
        go_roundw
        case rel => exact ⟨i + 1, none, lab5, by go_num, by omega, HP5.out.below (by (repeat (first | with_reducible exact Below.rf _ | with_reducible exact World.below_ext _ _ | with_reducible refine Below.ex ?_ _ | with_reducible refine Below.al ?_ _ | with_reducible refine Below.setCell ?_ (by simp) _ | with_reducible refine Below.drew ?_))), HO5.out, HNO5.out⟩
        case measure => simp [intOf]; omega
      | some T =>
        obtain ⟨M, rfl, hT, hC⟩ := hto
        have HT := hid hT
        have HFIT := hid (show Fit T from ⟨hT.bd, hC, HO5.out T rfl, HNO5.out T rfl⟩)
        have hbase := hT.bd.base
        have hnr := hT.bd.nr
        have HTB := hid (fun w9 (hB : Below w5.heap.size w5 w9) => hT.below hB)
        clear hT hbd
        by_cases hA0 : Av < 0
        · have bA : decide (Av < 0) = true := decide_eq_true hA0
          go_wp2
          first | with_reducible refine wp_region_ext2 (by kernel_rfl) (by kernel_rfl) ?_ | refine wp_region_ext (by kernel_rfl) (by kernel_rfl) ?_
          repeat (go_big_quiet_step (fail))
          refine wpQuiet_nil ?_
          rintro _ ⟨z, rfl⟩
          go_wp2
          go_roundw
          case rel => exact ⟨i + 1, some T, lab5, by go_num, by omega, HP5.out.below (by (repeat (first | with_reducible exact Below.rf _ | with_reducible exact World.below_ext _ _ | with_reducible refine Below.ex ?_ _ | with_reducible refine Below.al ?_ _ | with_reducible refine Below.setCell ?_ (by simp) _ | with_reducible refine Below.drew ?_))), HO5.out, HNO5.out⟩
          case measure => simp [intOf]; omega
        have bA : decide (Av < 0) = false := decide_eq_false hA0
        obtain ⟨r, rfl⟩ := Int.eq_ofNat_of_zero_le (show 0 ≤ Av by omega)
        by_cases hrn : r < T.nr
        · have bR : decide (T.nr ≤ r) = false := by simp; omega
          go_wp2
          first | with_reducible refine wp_region_ext2 (by kernel_rfl) (by kernel_rfl) ?_ | refine wp_region_ext (by kernel_rfl) (by kernel_rfl) ?_
          repeat (go_big_quiet_step ((go_at_call 28; exact Calls.ext_of_same (robots_any M T lab5 _ (HTB.out _ (by (repeat (first | with_reducible exact Below.rf _ | with_reducible exact World.below_ext _ _ | with_reducible refine Below.ex ?_ _ | with_reducible refine Below.al ?_ _ | with_reducible refine Below.setCell ?_ (by simp) _ | with_reducible refine Below.drew ?_))))))))
          refine wpQuiet_nil ?_
          rintro _ ⟨z, rfl⟩
          go_wp2
          first | with_reducible refine wp_region_ext2 (by kernel_rfl) (by kernel_rfl) ?_ | refine wp_region_ext (by kernel_rfl) (by kernel_rfl) ?_
          repeat (go_big_quiet_step (fail))
          refine wpQuiet_nil ?_
          rintro _ ⟨z, rfl⟩
          go_wp2_with (go_at_call 25; refine hold ?_)
          unfold Hid
          refine (lookO_any lab5 _ (some T) _ ⟨M, rfl, HTB.out _ (by (repeat (first | with_reducible exact Below.rf _ | with_reducible exact World.below_ext _ _ | with_reducible refine Below.ex ?_ _ | with_reducible refine Below.al ?_ _ | with_reducible refine Below.setCell ?_ (by simp) _ | with_reducible refine Below.drew ?_))), hC⟩).mono ?_
          rintro e w6 ⟨ao1, ao2, cap1, cap2, tl, sl, rfl, ht, hs, hl1, hl2, hb6⟩
          obtain ⟨z2, rfl⟩ := hb6.is_ext
          have HL1 := hid hl1
          have HL2 := hid hl2
          clear hl1 hl2 hb6
          obtain ⟨tn, htn⟩ : ∃ tn : Nat, (tn : Int) = max Cv (T.base : Int) := ⟨(max Cv (T.base : Int)).toNat, by omega⟩
          have HTN := hid htn
          go_wp2_with (go_at_call 29; refine hold ?_)
          unfold Hid
          obtain ⟨sk, hsk⟩ : ∃ sk, sk = w5.heap.size + (z.heap.size + z2.heap.size) := ⟨_, rfl⟩
          rw [← hsk]
          refine (clone_named M T lab5 _ (HTB.out _ (by (repeat (first | with_reducible exact Below.rf _ | with_reducible exact World.below_ext _ _ | with_reducible refine Below.ex ?_ _ | with_reducible refine Below.al ?_ _ | with_reducible refine Below.setCell ?_ (by simp) _ | with_reducible refine Below.drew ?_)))) (fun wB => Below w5.heap.size w5 wB ∧ sk < wB.heap.size ∧ wB.cell? ⟨sk, 0, none⟩ = some (.int .i64 (hO (some T))) ∧ wB.cell? ⟨sk, 1, none⟩ = some (.int .i64 (bO (some T))) ∧ wB.cell? ⟨sk, 2, none⟩ = some (.slice ao1 tl cap1) ∧ wB.cell? ⟨sk, 3, none⟩ = some (.slice ao2 sl cap2) ∧ LAt wB w5.heap.size (.slice ao1 tl cap1) tl (srow (tO (some T))) ∧ LAt wB w5.heap.size (.slice ao2 sl cap2) sl (qrow (sO (some T)))) ?_).mono ?_
          · refine ⟨by (repeat (first | with_reducible exact Below.rf _ | with_reducible exact World.below_ext _ _ | with_reducible refine Below.ex ?_ _ | with_reducible refine Below.al ?_ _ | with_reducible refine Below.setCell ?_ (by simp) _ | with_reducible refine Below.drew ?_)), by rw [hsk]; simp, by rw [hsk]; simp [go_sem, ↓IntWalk.iteOmega], by rw [hsk]; simp [go_sem, ↓IntWalk.iteOmega], by rw [hsk]; simp [go_sem, ↓IntWalk.iteOmega], by rw [hsk]; simp [go_sem, ↓IntWalk.iteOmega], ?_, ?_⟩
            · have := HL1.out
              rw [World.ext_ext] at this
              exact (this.below (by (repeat (first | with_reducible exact Below.rf _ | with_reducible exact World.below_ext _ _ | with_reducible refine Below.ex ?_ _ | with_reducible refine Below.al ?_ _ | with_reducible refine Below.setCell ?_ (by simp) _ | with_reducible refine Below.drew ?_)))).low (by simp)
            · have := HL2.out
              rw [World.ext_ext] at this
              exact (this.below (by (repeat (first | with_reducible exact Below.rf _ | with_reducible exact World.below_ext _ _ | with_reducible refine Below.ex ?_ _ | with_reducible refine Below.al ?_ _ | with_reducible refine Below.setCell ?_ (by simp) _ | with_reducible refine Below.drew ?_)))).low (by simp)
          rintro e w7 ⟨wB, ⟨hB5, hskl, u0, u1, u2, u3, hm1, hm2⟩, M2, lab7, rfl, hT7, hl7, hb7⟩
          have HB5 := hid hB5
          have HM1 := hid hm1
          have HM2 := hid hm2
          have HL7 := hid (fun j (hj : j < wB.heap.size) => hl7 j hj)
          have sB5 := hB5.size
          have hB57 : Below w5.heap.size w5 w7 := hB5.trans (hb7.mono sB5)
          have U := hid (And.intro u0 (And.intro u1 (And.intro u2 u3)))
          have F := hid (And.intro f0 f4)
          have TR := hid (trunc_any M2 T lab7 r tn Cv w7 hT7 HFIT.out.con hrn htn hCr.2)
          have hcnt := trunc_cnt HFIT.out.ord (t := tn) hrn (by omega)
          have RM := hid (fun w9 (hB : Below w5.heap.size w5 w9) => remov_any M T lab5 r tn Cv w9 (HTB.out w9 hB) hrn htn hCr.2)
          clear hsk hB5 hm1 hm2 hl7 u0 u1 u2 u3 f0 f1 f2 f3 f4 HL1 HL2 hT7 hB57 htn c0
          go_wp2_with (go_at_call 30; refine hold ?_)
          unfold Hid
          refine TR.out.mono ?_
          rintro e w8 ⟨M3, rfl, hT8, hC8, hM3, hk8⟩
          have hB8 := kept_low hb7 hk8 HL7.out (by omega)
          have HB8 := hid hB8
          have bcn : ((((T.trunc r tn).1 : Nat) : Int) != ((T.remov r tn : Nat) : Int)) = false := by rw [hcnt]; simp
          have hn1 := trunc_fix (T := T) (r := r) (t := tn)
          have ho1 := HFIT.out.ord.trunc r tn
          have hno1 := HFIT.out.noc.trunc HFIT.out.ord hrn tn
          have hgone := Gone.mk2 HFIT.out.ord (t := tn) hrn
          generalize (T.trunc r tn).2 = T1 at hT8 hC8 hn1 ho1 hno1 hgone
          have HT8 := hid hT8
          clear TR hk8 hb7 hB8 hcnt
          go_wp2_with (go_at_call 31; refine hold ?_)
          unfold Hid
          refine (RM.out _ (HB5.out.trans (HB8.out.mono sB5))).mono ?_
          rintro e w9 ⟨rfl, hb9⟩
          have HB9 := hid (HB8.out.trans (hb9.mono HB8.out.size))
          have RL := release_any M3 T1 lab7 r w9 (HT8.out.below hb9) hC8 (by rw [hn1.2.1]; exact hrn)
          rw [hM3] at RL
          have RL2 := hid RL
          clear RL RM HT8 hb9 hT8
          go_wp2_with (go_at_call 32; refine hold ?_)
          unfold Hid
          refine RL2.out.mono ?_
          rintro e w10 ⟨M4, rfl, hT10, hC10, hM4, hk10⟩
          have hB10 := kept_low HB9.out hk10 HL7.out (by omega)
          rw [hM3] at hM4
          rw [hn1.1] at hT10 hC10
          have ho2 := ho1.trunc r T.base
          have hno2 := hno1.trunc ho1 (by rw [hn1.2.1]; exact hrn) T.base
          have hn2 := trunc_fix (T := T1) (r := r) (t := T.base)
          generalize (T1.trunc r T.base).2 = T2 at hT10 hC10 ho2 hno2 hgone hn2
          have HG := hid hgone
          have HF2 := hid (show Fit T2 from ⟨hT10.bd, hC10, ho2, hno2⟩)
          have HB10 := hid hB10
          have HT10 := hid hT10
          have f0 := cell_keep (HB5.out.trans (hB10.mono sB5)) (by omega) F.out.1
          have s10 := hB10.size
          clear RL2 hk10 hT10 hC10 ho2 hno2 hgone hC8 ho1 hno1 hB10 hn1 hn2
          by_cases h9 : Kv = 9
          · subst h9
            have RS := reserve_any M4 T2 lab7 r Bv Cv w10 HT10.out
            rw [hM4] at RS
            have RS2 := hid RS
            have FO := fore9 HG.out HFIT.out HF2.out hrn Bv Cv
            obtain ⟨cd, hcd⟩ : ∃ cd, (T2.reserve (r : Int) Bv Cv).1 = cd := ⟨_, rfl⟩
            rw [hcd] at FO
            clear RS
            go_wp2_with (go_at_call 33; refine hold ?_)
            unfold Hid
            refine RS2.out.mono ?_
            rintro e w11 ⟨he, -, hk11⟩
            rw [hcd] at he
            subst he
            have HB11 := hid (kept_low HB10.out hk11 HL7.out (by omega))
            clear hk11 RS2 f0 hcd
            by_cases hin : cd ≠ 2 ∧ cd ≠ 3 ∧ cd ≠ 4
            · have IP := inPlace_any cd w11
              rw [decide_eq_true hin] at IP
              have IP2 := hid IP
              have FC := freeC_any M T lab5 r Bv Cv w11 (HTB.out _ (HB5.out.trans (HB11.out.mono sB5)))
              rw [FO hin, show decide (cd ≠ 6) = (cd != 6) by simp [bne, Bool.beq_eq_decide_eq]] at FC
              have FC2 := hid (ext_below FC)
              clear IP FC FO hin
              generalize hb6 : (cd != 6) = b6 at FC2
              go_wp2_with (first | (go_at_call 34; refine IP2.out.mono ?_; rintro e w11 ⟨rfl, hw'⟩; obtain rfl := hw') | (go_at_call 35; refine FC2.out.mono ?_; rintro e w13 ⟨rfl, hb13⟩; have HB13 := hid (HB11.out.trans (hb13.mono HB11.out.size)); clear hb13))
              have hBX : Below wB.heap.size wB _ := HB13.out
              have HBX := hid hBX
              have HTX := hid (HTB.out _ (HB5.out.trans (hBX.mono sB5)))
              have x0 := cell_keep hBX hskl U.out.1
              have x1 := cell_keep hBX hskl U.out.2.1
              have x2 := cell_keep hBX hskl U.out.2.2.1
              have x3 := cell_keep hBX hskl U.out.2.2.2
              have sX := hBX.size
              clear hBX
              go_wp2
              refine wp_region_tree 3 (fun w' => w'.cell? ⟨sk, 0, none⟩ = some (.int .i64 (hO (some T))) ∧ w'.cell? ⟨sk, 1, none⟩ = some (.int .i64 (bO (some T))) ∧ w'.cell? ⟨sk, 2, none⟩ = some (.slice ao1 tl cap1) ∧ w'.cell? ⟨sk, 3, none⟩ = some (.slice ao2 sl cap2)) (.q 2 true (.q 0 false (.one 1 true (.one 3 false (.one 4 false .nil))))) (by kernel_rfl) (by kernel_rfl) (by kernel_rfl) ?_ ?_
              · simp [go_sem, ↓IntWalk.iteOmega, *]
              repeat (first | (refine wpTr_qf (v := ?_) rfl rfl ?_ ?_; rotate_left; focus (intro w; go_simp; (try (with_reducible rfl)); done); try simp only [List.getElem_toArray, List.getElem_cons_zero, List.getElem_cons_succ, Act.put, List.setIfInBounds_toArray, List.set_cons_zero, List.set_cons_succ]) | (refine wpTr_qt (v := ?_) rfl rfl ?_ ?_; rotate_left; focus (intro w hSw; (try dsimp only at hSw); go_simp; (try (with_reducible rfl)); done); try simp only [List.getElem_toArray, List.getElem_cons_zero, List.getElem_cons_succ, Act.put, List.setIfInBounds_toArray, List.set_cons_zero, List.set_cons_succ]))
              refine wpTr_one rfl rfl (fun K hK => ?_)
              go_simp
              refine (lookO_any lab5 _ (some T) _ ⟨M, rfl, HTX.out.below (by (repeat (first | with_reducible exact Below.rf _ | with_reducible exact World.below_ext _ _ | with_reducible refine Below.ex ?_ _ | with_reducible refine Below.al ?_ _ | with_reducible refine Below.setCell ?_ (by simp) _ | with_reducible refine Below.drew ?_))), hC⟩).mono ?_
              rintro e w17 ⟨ao3, ao4, cap3, cap4, tl', sl', rfl, ht', hs', hl3, hl4, hb17⟩
              obtain rfl : tl = tl' := ht.1.symm.trans ht'.1
              obtain rfl : sl = sl' := hs.1.symm.trans hs'.1
              obtain ⟨z17, rfl⟩ := hb17.is_ext
              have HM3 := hid hl3
              have HM4 := hid hl4
              clear hl3 hl4 hb17
              refine hK.out _ _ (fun _ => by simp [go_sem, ↓IntWalk.iteOmega, *]) ?_
              clear hK K
              refine wpTr_one rfl rfl (fun K hK => ?_)
              go_simp
              have SY := hid (same_yes (hO (some T)) (bO (some T)) (tO (some T)) (sO (some T)) tl sl ao3 ao4 ao1 ao2 cap3 cap4 cap1 cap2 _ _ _ _ _ ht.1 hs.1 ht.2 hs.2 HM3.out HM4.out ((HM1.out.of HBX.out.size (fun j _ hj => HBX.out.block j hj)).below (by (repeat (first | with_reducible exact Below.rf _ | with_reducible exact World.below_ext _ _ | with_reducible refine Below.ex ?_ _ | with_reducible refine Below.al ?_ _ | with_reducible refine Below.setCell ?_ (by simp) _ | with_reducible refine Below.drew ?_)))) ((HM2.out.of HBX.out.size (fun j _ hj => HBX.out.block j hj)).below (by (repeat (first | with_reducible exact Below.rf _ | with_reducible exact World.below_ext _ _ | with_reducible refine Below.ex ?_ _ | with_reducible refine Below.al ?_ _ | with_reducible refine Below.setCell ?_ (by simp) _ | with_reducible refine Below.drew ?_)))))
              refine SY.out.mono ?_
              rintro e w18 ⟨rfl, hb18⟩
              have HB18 := hid (HBX.out.trans (Below.mono (Below.trans (by (repeat (first | with_reducible exact Below.rf _ | with_reducible exact World.below_ext _ _ | with_reducible refine Below.ex ?_ _ | with_reducible refine Below.al ?_ _ | with_reducible refine Below.setCell ?_ (by simp) _ | with_reducible refine Below.drew ?_))) (hb18.mono (by simp))) sX))
              clear hb18 SY
              refine hK.out _ _ (fun h => by cases h) ?_
              clear hK K
              refine wpTr_one rfl rfl (fun K hK => ?_)
              go_simp
              refine hK.out _ _ (fun h => by cases h) ?_
              clear hK K
              refine wpTr_nil ?_
              refine NoPanic.normal ?_
              go_wp2
              go_roundw
              case rel => exact ⟨i + 1, some T, lab5, by go_num, by omega, HP5.out.below (HB5.out.trans (HB18.out.mono sB5)), HO5.out, HNO5.out⟩
              case measure => simp [intOf]; omega
            · have IP := inPlace_any cd w11
              rw [decide_eq_false hin] at IP
              have IP2 := hid IP
              clear IP FO hin
              go_wp2_with (go_at_call 34; refine IP2.out.mono ?_; rintro e w11 ⟨rfl, hw'⟩; obtain rfl := hw')
              have hBX : Below wB.heap.size wB _ := HB11.out
              have HBX := hid hBX
              have HTX := hid (HTB.out _ (HB5.out.trans (hBX.mono sB5)))
              have x0 := cell_keep hBX hskl U.out.1
              have x1 := cell_keep hBX hskl U.out.2.1
              have x2 := cell_keep hBX hskl U.out.2.2.1
              have x3 := cell_keep hBX hskl U.out.2.2.2
              have sX := hBX.size
              clear hBX
              go_wp2
              refine wp_region_tree 3 (fun w' => w'.cell? ⟨sk, 0, none⟩ = some (.int .i64 (hO (some T))) ∧ w'.cell? ⟨sk, 1, none⟩ = some (.int .i64 (bO (some T))) ∧ w'.cell? ⟨sk, 2, none⟩ = some (.slice ao1 tl cap1) ∧ w'.cell? ⟨sk, 3, none⟩ = some (.slice ao2 sl cap2)) (.q 2 true (.q 0 false (.one 1 true (.one 3 false (.one 4 false .nil))))) (by kernel_rfl) (by kernel_rfl) (by kernel_rfl) ?_ ?_
              · simp [go_sem, ↓IntWalk.iteOmega, *]
              repeat (first | (refine wpTr_qf (v := ?_) rfl rfl ?_ ?_; rotate_left; focus (intro w; go_simp; (try (with_reducible rfl)); done); try simp only [List.getElem_toArray, List.getElem_cons_zero, List.getElem_cons_succ, Act.put, List.setIfInBounds_toArray, List.set_cons_zero, List.set_cons_succ]) | (refine wpTr_qt (v := ?_) rfl rfl ?_ ?_; rotate_left; focus (intro w hSw; (try dsimp only at hSw); go_simp; (try (with_reducible rfl)); done); try simp only [List.getElem_toArray, List.getElem_cons_zero, List.getElem_cons_succ, Act.put, List.setIfInBounds_toArray, List.set_cons_zero, List.set_cons_succ]))
              refine wpTr_one rfl rfl (fun K hK => ?_)
              go_simp
              refine (lookO_any lab5 _ (some T) _ ⟨M, rfl, HTX.out.below (by (repeat (first | with_reducible exact Below.rf _ | with_reducible exact World.below_ext _ _ | with_reducible refine Below.ex ?_ _ | with_reducible refine Below.al ?_ _ | with_reducible refine Below.setCell ?_ (by simp) _ | with_reducible refine Below.drew ?_))), hC⟩).mono ?_
              rintro e w17 ⟨ao3, ao4, cap3, cap4, tl', sl', rfl, ht', hs', hl3, hl4, hb17⟩
              obtain rfl : tl = tl' := ht.1.symm.trans ht'.1
              obtain rfl : sl = sl' := hs.1.symm.trans hs'.1
              obtain ⟨z17, rfl⟩ := hb17.is_ext
              have HM3 := hid hl3
              have HM4 := hid hl4
              clear hl3 hl4 hb17
              refine hK.out _ _ (fun _ => by simp [go_sem, ↓IntWalk.iteOmega, *]) ?_
              clear hK K
              refine wpTr_one rfl rfl (fun K hK => ?_)
              go_simp
              have SY := hid (same_yes (hO (some T)) (bO (some T)) (tO (some T)) (sO (some T)) tl sl ao3 ao4 ao1 ao2 cap3 cap4 cap1 cap2 _ _ _ _ _ ht.1 hs.1 ht.2 hs.2 HM3.out HM4.out ((HM1.out.of HBX.out.size (fun j _ hj => HBX.out.block j hj)).below (by (repeat (first | with_reducible exact Below.rf _ | with_reducible exact World.below_ext _ _ | with_reducible refine Below.ex ?_ _ | with_reducible refine Below.al ?_ _ | with_reducible refine Below.setCell ?_ (by simp) _ | with_reducible refine Below.drew ?_)))) ((HM2.out.of HBX.out.size (fun j _ hj => HBX.out.block j hj)).below (by (repeat (first | with_reducible exact Below.rf _ | with_reducible exact World.below_ext _ _ | with_reducible refine Below.ex ?_ _ | with_reducible refine Below.al ?_ _ | with_reducible refine Below.setCell ?_ (by simp) _ | with_reducible refine Below.drew ?_)))))
              refine SY.out.mono ?_
              rintro e w18 ⟨rfl, hb18⟩
              have HB18 := hid (HBX.out.trans (Below.mono (Below.trans (by (repeat (first | with_reducible exact Below.rf _ | with_reducible exact World.below_ext _ _ | with_reducible refine Below.ex ?_ _ | with_reducible refine Below.al ?_ _ | with_reducible refine Below.setCell ?_ (by simp) _ | with_reducible refine Below.drew ?_))) (hb18.mono (by simp))) sX))
              clear hb18 SY
              refine hK.out _ _ (fun h => by cases h) ?_
              clear hK K
              refine wpTr_one rfl rfl (fun K hK => ?_)
              go_simp
              refine hK.out _ _ (fun h => by cases h) ?_
              clear hK K
              refine wpTr_nil ?_
              refine NoPanic.normal ?_
              go_wp2
              go_roundw
              case rel => exact ⟨i + 1, some T, lab5, by go_num, by omega, HP5.out.below (HB5.out.trans (HB18.out.mono sB5)), HO5.out, HNO5.out⟩
              case measure => simp [intOf]; omega
          by_cases h10 : Kv = 10
          · subst h10
            clear h9
            have RS := reserve_any M4 T2 lab7 r Bv Cv w10 HT10.out
            rw [hM4] at RS
            have RS2 := hid RS
            have FO := fore10 HG.out HFIT.out HF2.out hrn Bv Cv Dv
            have hyes := TabS.reserve_yes (T := T2) (r := (r : Int)) (c := Bv) (t := Cv)
            have hb2 := HG.out.base
            obtain ⟨cd, hcd⟩ : ∃ cd, (T2.reserve (r : Int) Bv Cv).1 = cd := ⟨_, rfl⟩
            obtain ⟨T3, hT3⟩ : ∃ T3, (T2.reserve (r : Int) Bv Cv).2 = T3 := ⟨_, rfl⟩
            rw [hcd] at FO hyes
            rw [hT3] at FO
            clear RS
            go_wp2_with (go_at_call 33; refine hold ?_)
            unfold Hid
            refine RS2.out.mono ?_
            rintro e w11 ⟨he, hT11, hk11⟩
            rw [hcd] at he
            rw [hT3] at hT11
            subst he
            have HB11 := hid (kept_low HB10.out hk11 HL7.out (by omega))
            have HT11 := hid hT11
            clear hk11 RS2 f0 hcd hT3 hT11
            by_cases hc0 : cd = 0
            · obtain ⟨rn', bn', cn', -, -, eC, -, -, hwin, -⟩ := hyes hc0
              have hCw : 0 ≤ Cv ∧ Cv ≤ 2000000000 := by omega
              have FO2 := FO hc0
              subst hc0
              have f4 := cell_keep (HB5.out.trans (HB11.out.mono sB5)) (by omega) F.out.2
              have s11 := HB11.out.size
              have RT := reserve_any M4 T3 lab7 r Dv (Cv + 1) w11 HT11.out
              rw [hM4] at RT
              have RT2 := hid RT
              obtain ⟨cd, hcd⟩ : ∃ cd, (T3.reserve (r : Int) Dv (Cv + 1)).1 = cd := ⟨_, rfl⟩
              rw [hcd] at FO2
              clear RT FO hyes eC hwin hb2
              go_wp2_with (go_at_call 33; refine hold ?_)
              unfold Hid
              refine RT2.out.mono ?_
              rintro e w12 ⟨he, -, hk12⟩
              rw [hcd] at he
              subst he
              have HB12 := hid (kept_low HB11.out hk12 HL7.out (by omega))
              have f5 := cell_keep (HB5.out.trans (HB12.out.mono sB5)) (by omega) F.out.2
              have s12 := HB12.out.size
              clear hk12 RT2 f4 hcd
              by_cases hin : cd ≠ 2 ∧ cd ≠ 3 ∧ cd ≠ 4
              · have IP := inPlace_any cd w12
                rw [decide_eq_true hin] at IP
                have IP2 := hid IP
                have FC := freeM_any M T lab5 r Bv Dv Cv w12 (HTB.out _ (HB5.out.trans (HB12.out.mono sB5)))
                rw [FO2 hin] at FC
                clear IP FO2 hin
                by_cases h6 : cd = 6
                · subst h6
                  rw [show decide ((6 : Int) ≠ 6 ∧ (6 : Int) ≠ 7) = false by simp] at FC
                  have FC2 := hid (ext_below FC)
                  clear FC
                  go_wp2_with (first | (go_at_call 34; refine IP2.out.mono ?_; rintro e w12 ⟨rfl, hw'⟩; obtain rfl := hw') | (go_at_call 36; refine FC2.out.mono ?_; rintro e w13 ⟨rfl, hb13⟩; have HB13 := hid (HB12.out.trans (hb13.mono HB12.out.size)); clear hb13))
                  have hBX : Below wB.heap.size wB _ := HB13.out
                  have HBX := hid hBX
                  have HTX := hid (HTB.out _ (HB5.out.trans (hBX.mono sB5)))
                  have x0 := cell_keep hBX hskl U.out.1
                  have x1 := cell_keep hBX hskl U.out.2.1
                  have x2 := cell_keep hBX hskl U.out.2.2.1
                  have x3 := cell_keep hBX hskl U.out.2.2.2
                  have sX := hBX.size
                  clear hBX
                  go_wp2
                  refine wp_region_tree 3 (fun w' => w'.cell? ⟨sk, 0, none⟩ = some (.int .i64 (hO (some T))) ∧ w'.cell? ⟨sk, 1, none⟩ = some (.int .i64 (bO (some T))) ∧ w'.cell? ⟨sk, 2, none⟩ = some (.slice ao1 tl cap1) ∧ w'.cell? ⟨sk, 3, none⟩ = some (.slice ao2 sl cap2)) (.q 2 true (.q 0 false (.one 1 true (.one 3 false (.one 4 false .nil))))) (by kernel_rfl) (by kernel_rfl) (by kernel_rfl) ?_ ?_
                  · simp [go_sem, ↓IntWalk.iteOmega, *]
                  repeat (first | (refine wpTr_qf (v := ?_) rfl rfl ?_ ?_; rotate_left; focus (intro w; go_simp; (try (with_reducible rfl)); done); try simp only [List.getElem_toArray, List.getElem_cons_zero, List.getElem_cons_succ, Act.put, List.setIfInBounds_toArray, List.set_cons_zero, List.set_cons_succ]) | (refine wpTr_qt (v := ?_) rfl rfl ?_ ?_; rotate_left; focus (intro w hSw; (try dsimp only at hSw); go_simp; (try (with_reducible rfl)); done); try simp only [List.getElem_toArray, List.getElem_cons_zero, List.getElem_cons_succ, Act.put, List.setIfInBounds_toArray, List.set_cons_zero, List.set_cons_succ]))
                  refine wpTr_one rfl rfl (fun K hK => ?_)
                  go_simp
                  refine (lookO_any lab5 _ (some T) _ ⟨M, rfl, HTX.out.below (by (repeat (first | with_reducible exact Below.rf _ | with_reducible exact World.below_ext _ _ | with_reducible refine Below.ex ?_ _ | with_reducible refine Below.al ?_ _ | with_reducible refine Below.setCell ?_ (by simp) _ | with_reducible refine Below.drew ?_))), hC⟩).mono ?_
                  rintro e w17 ⟨ao3, ao4, cap3, cap4, tl', sl', rfl, ht', hs', hl3, hl4, hb17⟩
                  obtain rfl : tl = tl' := ht.1.symm.trans ht'.1
                  obtain rfl : sl = sl' := hs.1.symm.trans hs'.1
                  obtain ⟨z17, rfl⟩ := hb17.is_ext
                  have HM3 := hid hl3
                  have HM4 := hid hl4
                  clear hl3 hl4 hb17
                  refine hK.out _ _ (fun _ => by simp [go_sem, ↓IntWalk.iteOmega, *]) ?_
                  clear hK K
                  refine wpTr_one rfl rfl (fun K hK => ?_)
                  go_simp
                  have SY := hid (same_yes (hO (some T)) (bO (some T)) (tO (some T)) (sO (some T)) tl sl ao3 ao4 ao1 ao2 cap3 cap4 cap1 cap2 _ _ _ _ _ ht.1 hs.1 ht.2 hs.2 HM3.out HM4.out ((HM1.out.of HBX.out.size (fun j _ hj => HBX.out.block j hj)).below (by (repeat (first | with_reducible exact Below.rf _ | with_reducible exact World.below_ext _ _ | with_reducible refine Below.ex ?_ _ | with_reducible refine Below.al ?_ _ | with_reducible refine Below.setCell ?_ (by simp) _ | with_reducible refine Below.drew ?_)))) ((HM2.out.of HBX.out.size (fun j _ hj => HBX.out.block j hj)).below (by (repeat (first | with_reducible exact Below.rf _ | with_reducible exact World.below_ext _ _ | with_reducible refine Below.ex ?_ _ | with_reducible refine Below.al ?_ _ | with_reducible refine Below.setCell ?_ (by simp) _ | with_reducible refine Below.drew ?_)))))
                  refine SY.out.mono ?_
                  rintro e w18 ⟨rfl, hb18⟩
                  have HB18 := hid (HBX.out.trans (Below.mono (Below.trans (by (repeat (first | with_reducible exact Below.rf _ | with_reducible exact World.below_ext _ _ | with_reducible refine Below.ex ?_ _ | with_reducible refine Below.al ?_ _ | with_reducible refine Below.setCell ?_ (by simp) _ | with_reducible refine Below.drew ?_))) (hb18.mono (by simp))) sX))
                  clear hb18 SY
                  refine hK.out _ _ (fun h => by cases h) ?_
                  clear hK K
                  refine wpTr_one rfl rfl (fun K hK => ?_)
                  go_simp
                  refine hK.out _ _ (fun h => by cases h) ?_
                  clear hK K
                  refine wpTr_nil ?_
                  refine NoPanic.normal ?_
                  go_wp2
                  go_roundw
                  case rel => exact ⟨i + 1, some T, lab5, by go_num, by omega, HP5.out.below (HB5.out.trans (HB18.out.mono sB5)), HO5.out, HNO5.out⟩
                  case measure => simp [intOf]; omega
                · have n6 : (cd != 6) = true := by simpa using h6
                  have n6' : (cd == 6) = false := by simpa using h6
                  rw [show decide (cd ≠ 6 ∧ cd ≠ 7) = (cd != 7) by simp [bne, Bool.beq_eq_decide_eq, h6]] at FC
                  have FC2 := hid (ext_below FC)
                  generalize hb7 : (cd != 7) = b7 at FC2
                  clear FC
                  go_wp2_with (first | (go_at_call 34; refine IP2.out.mono ?_; rintro e w12 ⟨rfl, hw'⟩; obtain rfl := hw') | (go_at_call 36; refine FC2.out.mono ?_; rintro e w13 ⟨rfl, hb13⟩; have HB13 := hid (HB12.out.trans (hb13.mono HB12.out.size)); clear hb13))
                  have hBX : Below wB.heap.size wB _ := HB13.out
                  have HBX := hid hBX
                  have HTX := hid (HTB.out _ (HB5.out.trans (hBX.mono sB5)))
                  have x0 := cell_keep hBX hskl U.out.1
                  have x1 := cell_keep hBX hskl U.out.2.1
                  have x2 := cell_keep hBX hskl U.out.2.2.1
                  have x3 := cell_keep hBX hskl U.out.2.2.2
                  have sX := hBX.size
                  clear hBX
                  go_wp2
                  refine wp_region_tree 3 (fun w' => w'.cell? ⟨sk, 0, none⟩ = some (.int .i64 (hO (some T))) ∧ w'.cell? ⟨sk, 1, none⟩ = some (.int .i64 (bO (some T))) ∧ w'.cell? ⟨sk, 2, none⟩ = some (.slice ao1 tl cap1) ∧ w'.cell? ⟨sk, 3, none⟩ = some (.slice ao2 sl cap2)) (.q 2 true (.q 0 false (.one 1 true (.one 3 false (.one 4 false .nil))))) (by kernel_rfl) (by kernel_rfl) (by kernel_rfl) ?_ ?_
                  · simp [go_sem, ↓IntWalk.iteOmega, *]
                  repeat (first | (refine wpTr_qf (v := ?_) rfl rfl ?_ ?_; rotate_left; focus (intro w; go_simp; (try (with_reducible rfl)); done); try simp only [List.getElem_toArray, List.getElem_cons_zero, List.getElem_cons_succ, Act.put, List.setIfInBounds_toArray, List.set_cons_zero, List.set_cons_succ]) | (refine wpTr_qt (v := ?_) rfl rfl ?_ ?_; rotate_left; focus (intro w hSw; (try dsimp only at hSw); go_simp; (try (with_reducible rfl)); done); try simp only [List.getElem_toArray, List.getElem_cons_zero, List.getElem_cons_succ, Act.put, List.setIfInBounds_toArray, List.set_cons_zero, List.set_cons_succ]))
                  refine wpTr_one rfl rfl (fun K hK => ?_)
                  go_simp
                  refine (lookO_any lab5 _ (some T) _ ⟨M, rfl, HTX.out.below (by (repeat (first | with_reducible exact Below.rf _ | with_reducible exact World.below_ext _ _ | with_reducible refine Below.ex ?_ _ | with_reducible refine Below.al ?_ _ | with_reducible refine Below.setCell ?_ (by simp) _ | with_reducible refine Below.drew ?_))), hC⟩).mono ?_
                  rintro e w17 ⟨ao3, ao4, cap3, cap4, tl', sl', rfl, ht', hs', hl3, hl4, hb17⟩
                  obtain rfl : tl = tl' := ht.1.symm.trans ht'.1
                  obtain rfl : sl = sl' := hs.1.symm.trans hs'.1
                  obtain ⟨z17, rfl⟩ := hb17.is_ext
                  have HM3 := hid hl3
                  have HM4 := hid hl4
                  clear hl3 hl4 hb17
                  refine hK.out _ _ (fun _ => by simp [go_sem, ↓IntWalk.iteOmega, *]) ?_
                  clear hK K
                  refine wpTr_one rfl rfl (fun K hK => ?_)
                  go_simp
                  have SY := hid (same_yes (hO (some T)) (bO (some T)) (tO (some T)) (sO (some T)) tl sl ao3 ao4 ao1 ao2 cap3 cap4 cap1 cap2 _ _ _ _ _ ht.1 hs.1 ht.2 hs.2 HM3.out HM4.out ((HM1.out.of HBX.out.size (fun j _ hj => HBX.out.block j hj)).below (by (repeat (first | with_reducible exact Below.rf _ | with_reducible exact World.below_ext _ _ | with_reducible refine Below.ex ?_ _ | with_reducible refine Below.al ?_ _ | with_reducible refine Below.setCell ?_ (by simp) _ | with_reducible refine Below.drew ?_)))) ((HM2.out.of HBX.out.size (fun j _ hj => HBX.out.block j hj)).below (by (repeat (first | with_reducible exact Below.rf _ | with_reducible exact World.below_ext _ _ | with_reducible refine Below.ex ?_ _ | with_reducible refine Below.al ?_ _ | with_reducible refine Below.setCell ?_ (by simp) _ | with_reducible refine Below.drew ?_)))))
                  refine SY.out.mono ?_
                  rintro e w18 ⟨rfl, hb18⟩
                  have HB18 := hid (HBX.out.trans (Below.mono (Below.trans (by (repeat (first | with_reducible exact Below.rf _ | with_reducible exact World.below_ext _ _ | with_reducible refine Below.ex ?_ _ | with_reducible refine Below.al ?_ _ | with_reducible refine Below.setCell ?_ (by simp) _ | with_reducible refine Below.drew ?_))) (hb18.mono (by simp))) sX))
                  clear hb18 SY
                  refine hK.out _ _ (fun h => by cases h) ?_
                  clear hK K
                  refine wpTr_one rfl rfl (fun K hK => ?_)
                  go_simp
                  refine hK.out _ _ (fun h => by cases h) ?_
                  clear hK K
                  refine wpTr_nil ?_
                  refine NoPanic.normal ?_
                  go_wp2
                  go_roundw
                  case rel => exact ⟨i + 1, some T, lab5, by go_num, by omega, HP5.out.below (HB5.out.trans (HB18.out.mono sB5)), HO5.out, HNO5.out⟩
                  case measure => simp [intOf]; omega
              · have IP := inPlace_any cd w12
                rw [decide_eq_false hin] at IP
                have IP2 := hid IP
                clear IP FO2 hin
                go_wp2_with (go_at_call 34; refine IP2.out.mono ?_; rintro e w12 ⟨rfl, hw'⟩; obtain rfl := hw')
                have hBX : Below wB.heap.size wB _ := HB12.out
                have HBX := hid hBX
                have HTX := hid (HTB.out _ (HB5.out.trans (hBX.mono sB5)))
                have x0 := cell_keep hBX hskl U.out.1
                have x1 := cell_keep hBX hskl U.out.2.1
                have x2 := cell_keep hBX hskl U.out.2.2.1
                have x3 := cell_keep hBX hskl U.out.2.2.2
                have sX := hBX.size
                clear hBX
                go_wp2
                refine wp_region_tree 3 (fun w' => w'.cell? ⟨sk, 0, none⟩ = some (.int .i64 (hO (some T))) ∧ w'.cell? ⟨sk, 1, none⟩ = some (.int .i64 (bO (some T))) ∧ w'.cell? ⟨sk, 2, none⟩ = some (.slice ao1 tl cap1) ∧ w'.cell? ⟨sk, 3, none⟩ = some (.slice ao2 sl cap2)) (.q 2 true (.q 0 false (.one 1 true (.one 3 false (.one 4 false .nil))))) (by kernel_rfl) (by kernel_rfl) (by kernel_rfl) ?_ ?_
                · simp [go_sem, ↓IntWalk.iteOmega, *]
                repeat (first | (refine wpTr_qf (v := ?_) rfl rfl ?_ ?_; rotate_left; focus (intro w; go_simp; (try (with_reducible rfl)); done); try simp only [List.getElem_toArray, List.getElem_cons_zero, List.getElem_cons_succ, Act.put, List.setIfInBounds_toArray, List.set_cons_zero, List.set_cons_succ]) | (refine wpTr_qt (v := ?_) rfl rfl ?_ ?_; rotate_left; focus (intro w hSw; (try dsimp only at hSw); go_simp; (try (with_reducible rfl)); done); try simp only [List.getElem_toArray, List.getElem_cons_zero, List.getElem_cons_succ, Act.put, List.setIfInBounds_toArray, List.set_cons_zero, List.set_cons_succ]))
                refine wpTr_one rfl rfl (fun K hK => ?_)
                go_simp
                refine (lookO_any lab5 _ (some T) _ ⟨M, rfl, HTX.out.below (by (repeat (first | with_reducible exact Below.rf _ | with_reducible exact World.below_ext _ _ | with_reducible refine Below.ex ?_ _ | with_reducible refine Below.al ?_ _ | with_reducible refine Below.setCell ?_ (by simp) _ | with_reducible refine Below.drew ?_))), hC⟩).mono ?_
                rintro e w17 ⟨ao3, ao4, cap3, cap4, tl', sl', rfl, ht', hs', hl3, hl4, hb17⟩
                obtain rfl : tl = tl' := ht.1.symm.trans ht'.1
                obtain rfl : sl = sl' := hs.1.symm.trans hs'.1
                obtain ⟨z17, rfl⟩ := hb17.is_ext
                have HM3 := hid hl3
                have HM4 := hid hl4
                clear hl3 hl4 hb17
                refine hK.out _ _ (fun _ => by simp [go_sem, ↓IntWalk.iteOmega, *]) ?_
                clear hK K
                refine wpTr_one rfl rfl (fun K hK => ?_)
                go_simp
                have SY := hid (same_yes (hO (some T)) (bO (some T)) (tO (some T)) (sO (some T)) tl sl ao3 ao4 ao1 ao2 cap3 cap4 cap1 cap2 _ _ _ _ _ ht.1 hs.1 ht.2 hs.2 HM3.out HM4.out ((HM1.out.of HBX.out.size (fun j _ hj => HBX.out.block j hj)).below (by (repeat (first | with_reducible exact Below.rf _ | with_reducible exact World.below_ext _ _ | with_reducible refine Below.ex ?_ _ | with_reducible refine Below.al ?_ _ | with_reducible refine Below.setCell ?_ (by simp) _ | with_reducible refine Below.drew ?_)))) ((HM2.out.of HBX.out.size (fun j _ hj => HBX.out.block j hj)).below (by (repeat (first | with_reducible exact Below.rf _ | with_reducible exact World.below_ext _ _ | with_reducible refine Below.ex ?_ _ | with_reducible refine Below.al ?_ _ | with_reducible refine Below.setCell ?_ (by simp) _ | with_reducible refine Below.drew ?_)))))
                refine SY.out.mono ?_
                rintro e w18 ⟨rfl, hb18⟩
                have HB18 := hid (HBX.out.trans (Below.mono (Below.trans (by (repeat (first | with_reducible exact Below.rf _ | with_reducible exact World.below_ext _ _ | with_reducible refine Below.ex ?_ _ | with_reducible refine Below.al ?_ _ | with_reducible refine Below.setCell ?_ (by simp) _ | with_reducible refine Below.drew ?_))) (hb18.mono (by simp))) sX))
                clear hb18 SY
                refine hK.out _ _ (fun h => by cases h) ?_
                clear hK K
                refine wpTr_one rfl rfl (fun K hK => ?_)
                go_simp
                refine hK.out _ _ (fun h => by cases h) ?_
                clear hK K
                refine wpTr_nil ?_
                refine NoPanic.normal ?_
                go_wp2
                go_roundw
                case rel => exact ⟨i + 1, some T, lab5, by go_num, by omega, HP5.out.below (HB5.out.trans (HB18.out.mono sB5)), HO5.out, HNO5.out⟩
                case measure => simp [intOf]; omega
            · have n0 : (cd != 0) = true := by simpa using hc0
              have n0' : (cd == 0) = false := by simpa using hc0
              clear FO hyes hb2
              have hBX : Below wB.heap.size wB _ := HB11.out
              have HBX := hid hBX
              have HTX := hid (HTB.out _ (HB5.out.trans (hBX.mono sB5)))
              have x0 := cell_keep hBX hskl U.out.1
              have x1 := cell_keep hBX hskl U.out.2.1
              have x2 := cell_keep hBX hskl U.out.2.2.1
              have x3 := cell_keep hBX hskl U.out.2.2.2
              have sX := hBX.size
              clear hBX
              go_wp2
              refine wp_region_tree 3 (fun w' => w'.cell? ⟨sk, 0, none⟩ = some (.int .i64 (hO (some T))) ∧ w'.cell? ⟨sk, 1, none⟩ = some (.int .i64 (bO (some T))) ∧ w'.cell? ⟨sk, 2, none⟩ = some (.slice ao1 tl cap1) ∧ w'.cell? ⟨sk, 3, none⟩ = some (.slice ao2 sl cap2)) (.q 2 true (.q 0 false (.one 1 true (.one 3 false (.one 4 false .nil))))) (by kernel_rfl) (by kernel_rfl) (by kernel_rfl) ?_ ?_
              · simp [go_sem, ↓IntWalk.iteOmega, *]
              repeat (first | (refine wpTr_qf (v := ?_) rfl rfl ?_ ?_; rotate_left; focus (intro w; go_simp; (try (with_reducible rfl)); done); try simp only [List.getElem_toArray, List.getElem_cons_zero, List.getElem_cons_succ, Act.put, List.setIfInBounds_toArray, List.set_cons_zero, List.set_cons_succ]) | (refine wpTr_qt (v := ?_) rfl rfl ?_ ?_; rotate_left; focus (intro w hSw; (try dsimp only at hSw); go_simp; (try (with_reducible rfl)); done); try simp only [List.getElem_toArray, List.getElem_cons_zero, List.getElem_cons_succ, Act.put, List.setIfInBounds_toArray, List.set_cons_zero, List.set_cons_succ]))
              refine wpTr_one rfl rfl (fun K hK => ?_)
              go_simp
              refine (lookO_any lab5 _ (some T) _ ⟨M, rfl, HTX.out.below (by (repeat (first | with_reducible exact Below.rf _ | with_reducible exact World.below_ext _ _ | with_reducible refine Below.ex ?_ _ | with_reducible refine Below.al ?_ _ | with_reducible refine Below.setCell ?_ (by simp) _ | with_reducible refine Below.drew ?_))), hC⟩).mono ?_
              rintro e w17 ⟨ao3, ao4, cap3, cap4, tl', sl', rfl, ht', hs', hl3, hl4, hb17⟩
              obtain rfl : tl = tl' := ht.1.symm.trans ht'.1
              obtain rfl : sl = sl' := hs.1.symm.trans hs'.1
              obtain ⟨z17, rfl⟩ := hb17.is_ext
              have HM3 := hid hl3
              have HM4 := hid hl4
              clear hl3 hl4 hb17
              refine hK.out _ _ (fun _ => by simp [go_sem, ↓IntWalk.iteOmega, *]) ?_
              clear hK K
              refine wpTr_one rfl rfl (fun K hK => ?_)
              go_simp
              have SY := hid (same_yes (hO (some T)) (bO (some T)) (tO (some T)) (sO (some T)) tl sl ao3 ao4 ao1 ao2 cap3 cap4 cap1 cap2 _ _ _ _ _ ht.1 hs.1 ht.2 hs.2 HM3.out HM4.out ((HM1.out.of HBX.out.size (fun j _ hj => HBX.out.block j hj)).below (by (repeat (first | with_reducible exact Below.rf _ | with_reducible exact World.below_ext _ _ | with_reducible refine Below.ex ?_ _ | with_reducible refine Below.al ?_ _ | with_reducible refine Below.setCell ?_ (by simp) _ | with_reducible refine Below.drew ?_)))) ((HM2.out.of HBX.out.size (fun j _ hj => HBX.out.block j hj)).below (by (repeat (first | with_reducible exact Below.rf _ | with_reducible exact World.below_ext _ _ | with_reducible refine Below.ex ?_ _ | with_reducible refine Below.al ?_ _ | with_reducible refine Below.setCell ?_ (by simp) _ | with_reducible refine Below.drew ?_)))))
              refine SY.out.mono ?_
              rintro e w18 ⟨rfl, hb18⟩
              have HB18 := hid (HBX.out.trans (Below.mono (Below.trans (by (repeat (first | with_reducible exact Below.rf _ | with_reducible exact World.below_ext _ _ | with_reducible refine Below.ex ?_ _ | with_reducible refine Below.al ?_ _ | with_reducible refine Below.setCell ?_ (by simp) _ | with_reducible refine Below.drew ?_))) (hb18.mono (by simp))) sX))
              clear hb18 SY
              refine hK.out _ _ (fun h => by cases h) ?_
              clear hK K
              refine wpTr_one rfl rfl (fun K hK => ?_)
              go_simp
              refine hK.out _ _ (fun h => by cases h) ?_
              clear hK K
              refine wpTr_nil ?_
              refine NoPanic.normal ?_
              go_wp2
              go_roundw
              case rel => exact ⟨i + 1, some T, lab5, by go_num, by omega, HP5.out.below (HB5.out.trans (HB18.out.mono sB5)), HO5.out, HNO5.out⟩
              case measure => simp [intOf]; omega
          by_cases h11 : Kv = 11
          · subst h11
            clear h9 h10
            have RS := stand_any M4 T2 lab7 r Bv Cv w10 HT10.out HF2.out.con
            rw [hM4] at RS
            have RS2 := hid RS
            have FO := fore11 HG.out HFIT.out HF2.out hrn Bv Cv
            obtain ⟨cd, hcd⟩ : ∃ cd, (T2.stand (r : Int) Bv Cv).1 = cd := ⟨_, rfl⟩
            rw [hcd] at FO
            clear RS
            go_wp2_with (go_at_call 37; refine hold ?_)
            unfold Hid
            refine RS2.out.mono ?_
            rintro e w11 ⟨lab11, M5, he, -, -, -, hk11⟩
            rw [hcd] at he
            subst he
            have HB11 := hid (kept_low HB10.out hk11 HL7.out (by omega))
            clear hk11 RS2 f0 hcd
            by_cases hin : cd ≠ 2 ∧ cd ≠ 3 ∧ cd ≠ 4
            · have IP := inPlace_any cd w11
              rw [decide_eq_true hin] at IP
              have IP2 := hid IP
              have FC := freeF_any M T lab5 r Bv Cv w11 (HTB.out _ (HB5.out.trans (HB11.out.mono sB5)))
              rw [FO hin, show decide (cd ≠ 6) = (cd != 6) by simp [bne, Bool.beq_eq_decide_eq]] at FC
              have FC2 := hid (ext_below FC)
              clear IP FC FO hin
              generalize hb6 : (cd != 6) = b6 at FC2
              go_wp2_with (first | (go_at_call 34; refine IP2.out.mono ?_; rintro e w11 ⟨rfl, hw'⟩; obtain rfl := hw') | (go_at_call 38; refine FC2.out.mono ?_; rintro e w13 ⟨rfl, hb13⟩; have HB13 := hid (HB11.out.trans (hb13.mono HB11.out.size)); clear hb13))
              have hBX : Below wB.heap.size wB _ := HB13.out
              have HBX := hid hBX
              have HTX := hid (HTB.out _ (HB5.out.trans (hBX.mono sB5)))
              have x0 := cell_keep hBX hskl U.out.1
              have x1 := cell_keep hBX hskl U.out.2.1
              have x2 := cell_keep hBX hskl U.out.2.2.1
              have x3 := cell_keep hBX hskl U.out.2.2.2
              have sX := hBX.size
              clear hBX
              go_wp2
              refine wp_region_tree 3 (fun w' => w'.cell? ⟨sk, 0, none⟩ = some (.int .i64 (hO (some T))) ∧ w'.cell? ⟨sk, 1, none⟩ = some (.int .i64 (bO (some T))) ∧ w'.cell? ⟨sk, 2, none⟩ = some (.slice ao1 tl cap1) ∧ w'.cell? ⟨sk, 3, none⟩ = some (.slice ao2 sl cap2)) (.q 2 true (.q 0 false (.one 1 true (.one 3 false (.one 4 false .nil))))) (by kernel_rfl) (by kernel_rfl) (by kernel_rfl) ?_ ?_
              · simp [go_sem, ↓IntWalk.iteOmega, *]
              repeat (first | (refine wpTr_qf (v := ?_) rfl rfl ?_ ?_; rotate_left; focus (intro w; go_simp; (try (with_reducible rfl)); done); try simp only [List.getElem_toArray, List.getElem_cons_zero, List.getElem_cons_succ, Act.put, List.setIfInBounds_toArray, List.set_cons_zero, List.set_cons_succ]) | (refine wpTr_qt (v := ?_) rfl rfl ?_ ?_; rotate_left; focus (intro w hSw; (try dsimp only at hSw); go_simp; (try (with_reducible rfl)); done); try simp only [List.getElem_toArray, List.getElem_cons_zero, List.getElem_cons_succ, Act.put, List.setIfInBounds_toArray, List.set_cons_zero, List.set_cons_succ]))
              refine wpTr_one rfl rfl (fun K hK => ?_)
              go_simp
              refine (lookO_any lab5 _ (some T) _ ⟨M, rfl, HTX.out.below (by (repeat (first | with_reducible exact Below.rf _ | with_reducible exact World.below_ext _ _ | with_reducible refine Below.ex ?_ _ | with_reducible refine Below.al ?_ _ | with_reducible refine Below.setCell ?_ (by simp) _ | with_reducible refine Below.drew ?_))), hC⟩).mono ?_
              rintro e w17 ⟨ao3, ao4, cap3, cap4, tl', sl', rfl, ht', hs', hl3, hl4, hb17⟩
              obtain rfl : tl = tl' := ht.1.symm.trans ht'.1
              obtain rfl : sl = sl' := hs.1.symm.trans hs'.1
              obtain ⟨z17, rfl⟩ := hb17.is_ext
              have HM3 := hid hl3
              have HM4 := hid hl4
              clear hl3 hl4 hb17
              refine hK.out _ _ (fun _ => by simp [go_sem, ↓IntWalk.iteOmega, *]) ?_
              clear hK K
              refine wpTr_one rfl rfl (fun K hK => ?_)
              go_simp
              have SY := hid (same_yes (hO (some T)) (bO (some T)) (tO (some T)) (sO (some T)) tl sl ao3 ao4 ao1 ao2 cap3 cap4 cap1 cap2 _ _ _ _ _ ht.1 hs.1 ht.2 hs.2 HM3.out HM4.out ((HM1.out.of HBX.out.size (fun j _ hj => HBX.out.block j hj)).below (by (repeat (first | with_reducible exact Below.rf _ | with_reducible exact World.below_ext _ _ | with_reducible refine Below.ex ?_ _ | with_reducible refine Below.al ?_ _ | with_reducible refine Below.setCell ?_ (by simp) _ | with_reducible refine Below.drew ?_)))) ((HM2.out.of HBX.out.size (fun j _ hj => HBX.out.block j hj)).below (by (repeat (first | with_reducible exact Below.rf _ | with_reducible exact World.below_ext _ _ | with_reducible refine Below.ex ?_ _ | with_reducible refine Below.al ?_ _ | with_reducible refine Below.setCell ?_ (by simp) _ | with_reducible refine Below.drew ?_)))))
              refine SY.out.mono ?_
              rintro e w18 ⟨rfl, hb18⟩
              have HB18 := hid (HBX.out.trans (Below.mono (Below.trans (by (repeat (first | with_reducible exact Below.rf _ | with_reducible exact World.below_ext _ _ | with_reducible refine Below.ex ?_ _ | with_reducible refine Below.al ?_ _ | with_reducible refine Below.setCell ?_ (by simp) _ | with_reducible refine Below.drew ?_))) (hb18.mono (by simp))) sX))
              clear hb18 SY
              refine hK.out _ _ (fun h => by cases h) ?_
              clear hK K
              refine wpTr_one rfl rfl (fun K hK => ?_)
              go_simp
              refine hK.out _ _ (fun h => by cases h) ?_
              clear hK K
              refine wpTr_nil ?_
              refine NoPanic.normal ?_
              go_wp2
              go_roundw
              case rel => exact ⟨i + 1, some T, lab5, by go_num, by omega, HP5.out.below (HB5.out.trans (HB18.out.mono sB5)), HO5.out, HNO5.out⟩
              case measure => simp [intOf]; omega
            · have IP := inPlace_any cd w11
              rw [decide_eq_false hin] at IP
              have IP2 := hid IP
              clear IP FO hin
              go_wp2_with (go_at_call 34; refine IP2.out.mono ?_; rintro e w11 ⟨rfl, hw'⟩; obtain rfl := hw')
              have hBX : Below wB.heap.size wB _ := HB11.out
              have HBX := hid hBX
              have HTX := hid (HTB.out _ (HB5.out.trans (hBX.mono sB5)))
              have x0 := cell_keep hBX hskl U.out.1
              have x1 := cell_keep hBX hskl U.out.2.1
              have x2 := cell_keep hBX hskl U.out.2.2.1
              have x3 := cell_keep hBX hskl U.out.2.2.2
              have sX := hBX.size
              clear hBX
              go_wp2
              refine wp_region_tree 3 (fun w' => w'.cell? ⟨sk, 0, none⟩ = some (.int .i64 (hO (some T))) ∧ w'.cell? ⟨sk, 1, none⟩ = some (.int .i64 (bO (some T))) ∧ w'.cell? ⟨sk, 2, none⟩ = some (.slice ao1 tl cap1) ∧ w'.cell? ⟨sk, 3, none⟩ = some (.slice ao2 sl cap2)) (.q 2 true (.q 0 false (.one 1 true (.one 3 false (.one 4 false .nil))))) (by kernel_rfl) (by kernel_rfl) (by kernel_rfl) ?_ ?_
              · simp [go_sem, ↓IntWalk.iteOmega, *]
              repeat (first | (refine wpTr_qf (v := ?_) rfl rfl ?_ ?_; rotate_left; focus (intro w; go_simp; (try (with_reducible rfl)); done); try simp only [List.getElem_toArray, List.getElem_cons_zero, List.getElem_cons_succ, Act.put, List.setIfInBounds_toArray, List.set_cons_zero, List.set_cons_succ]) | (refine wpTr_qt (v := ?_) rfl rfl ?_ ?_; rotate_left; focus (intro w hSw; (try dsimp only at hSw); go_simp; (try (with_reducible rfl)); done); try simp only [List.getElem_toArray, List.getElem_cons_zero, List.getElem_cons_succ, Act.put, List.setIfInBounds_toArray, List.set_cons_zero, List.set_cons_succ]))
              refine wpTr_one rfl rfl (fun K hK => ?_)
              go_simp
              refine (lookO_any lab5 _ (some T) _ ⟨M, rfl, HTX.out.below (by (repeat (first | with_reducible exact Below.rf _ | with_reducible exact World.below_ext _ _ | with_reducible refine Below.ex ?_ _ | with_reducible refine Below.al ?_ _ | with_reducible refine Below.setCell ?_ (by simp) _ | with_reducible refine Below.drew ?_))), hC⟩).mono ?_
              rintro e w17 ⟨ao3, ao4, cap3, cap4, tl', sl', rfl, ht', hs', hl3, hl4, hb17⟩
              obtain rfl : tl = tl' := ht.1.symm.trans ht'.1
              obtain rfl : sl = sl' := hs.1.symm.trans hs'.1
              obtain ⟨z17, rfl⟩ := hb17.is_ext
              have HM3 := hid hl3
              have HM4 := hid hl4
              clear hl3 hl4 hb17
              refine hK.out _ _ (fun _ => by simp [go_sem, ↓IntWalk.iteOmega, *]) ?_
              clear hK K
              refine wpTr_one rfl rfl (fun K hK => ?_)
              go_simp
              have SY := hid (same_yes (hO (some T)) (bO (some T)) (tO (some T)) (sO (some T)) tl sl ao3 ao4 ao1 ao2 cap3 cap4 cap1 cap2 _ _ _ _ _ ht.1 hs.1 ht.2 hs.2 HM3.out HM4.out ((HM1.out.of HBX.out.size (fun j _ hj => HBX.out.block j hj)).below (by (repeat (first | with_reducible exact Below.rf _ | with_reducible exact World.below_ext _ _ | with_reducible refine Below.ex ?_ _ | with_reducible refine Below.al ?_ _ | with_reducible refine Below.setCell ?_ (by simp) _ | with_reducible refine Below.drew ?_)))) ((HM2.out.of HBX.out.size (fun j _ hj => HBX.out.block j hj)).below (by (repeat (first | with_reducible exact Below.rf _ | with_reducible exact World.below_ext _ _ | with_reducible refine Below.ex ?_ _ | with_reducible refine Below.al ?_ _ | with_reducible refine Below.setCell ?_ (by simp) _ | with_reducible refine Below.drew ?_)))))
              refine SY.out.mono ?_
              rintro e w18 ⟨rfl, hb18⟩
              have HB18 := hid (HBX.out.trans (Below.mono (Below.trans (by (repeat (first | with_reducible exact Below.rf _ | with_reducible exact World.below_ext _ _ | with_reducible refine Below.ex ?_ _ | with_reducible refine Below.al ?_ _ | with_reducible refine Below.setCell ?_ (by simp) _ | with_reducible refine Below.drew ?_))) (hb18.mono (by simp))) sX))
              clear hb18 SY
              refine hK.out _ _ (fun h => by cases h) ?_
              clear hK K
              refine wpTr_one rfl rfl (fun K hK => ?_)
              go_simp
              refine hK.out _ _ (fun h => by cases h) ?_
              clear hK K
              refine wpTr_nil ?_
              refine NoPanic.normal ?_
              go_wp2
              go_roundw
              case rel => exact ⟨i + 1, some T, lab5, by go_num, by omega, HP5.out.below (HB5.out.trans (HB18.out.mono sB5)), HO5.out, HNO5.out⟩
              case measure => simp [intOf]; omega
          have k9 : (Kv == 9) = false := by simpa using h9
          have k10 : (Kv == 10) = false := by simpa using h10
          have k11 : (Kv == 11) = false := by simpa using h11
          have hBX : Below wB.heap.size wB _ := HB10.out
          have HBX := hid hBX
          have HTX := hid (HTB.out _ (HB5.out.trans (hBX.mono sB5)))
          have x0 := cell_keep hBX hskl U.out.1
          have x1 := cell_keep hBX hskl U.out.2.1
          have x2 := cell_keep hBX hskl U.out.2.2.1
          have x3 := cell_keep hBX hskl U.out.2.2.2
          have sX := hBX.size
          clear hBX
          go_wp2
          refine wp_region_tree 3 (fun w' => w'.cell? ⟨sk, 0, none⟩ = some (.int .i64 (hO (some T))) ∧ w'.cell? ⟨sk, 1, none⟩ = some (.int .i64 (bO (some T))) ∧ w'.cell? ⟨sk, 2, none⟩ = some (.slice ao1 tl cap1) ∧ w'.cell? ⟨sk, 3, none⟩ = some (.slice ao2 sl cap2)) (.q 2 true (.q 0 false (.one 1 true (.one 3 false (.one 4 false .nil))))) (by kernel_rfl) (by kernel_rfl) (by kernel_rfl) ?_ ?_
          · simp [go_sem, ↓IntWalk.iteOmega, *]
          repeat (first | (refine wpTr_qf (v := ?_) rfl rfl ?_ ?_; rotate_left; focus (intro w; go_simp; (try (with_reducible rfl)); done); try simp only [List.getElem_toArray, List.getElem_cons_zero, List.getElem_cons_succ, Act.put, List.setIfInBounds_toArray, List.set_cons_zero, List.set_cons_succ]) | (refine wpTr_qt (v := ?_) rfl rfl ?_ ?_; rotate_left; focus (intro w hSw; (try dsimp only at hSw); go_simp; (try (with_reducible rfl)); done); try simp only [List.getElem_toArray, List.getElem_cons_zero, List.getElem_cons_succ, Act.put, List.setIfInBounds_toArray, List.set_cons_zero, List.set_cons_succ]))
          refine wpTr_one rfl rfl (fun K hK => ?_)
          go_simp
          refine (lookO_any lab5 _ (some T) _ ⟨M, rfl, HTX.out.below (by (repeat (first | with_reducible exact Below.rf _ | with_reducible exact World.below_ext _ _ | with_reducible refine Below.ex ?_ _ | with_reducible refine Below.al ?_ _ | with_reducible refine Below.setCell ?_ (by simp) _ | with_reducible refine Below.drew ?_))), hC⟩).mono ?_
          rintro e w17 ⟨ao3, ao4, cap3, cap4, tl', sl', rfl, ht', hs', hl3, hl4, hb17⟩
          obtain rfl : tl = tl' := ht.1.symm.trans ht'.1
          obtain rfl : sl = sl' := hs.1.symm.trans hs'.1
          obtain ⟨z17, rfl⟩ := hb17.is_ext
          have HM3 := hid hl3
          have HM4 := hid hl4
          clear hl3 hl4 hb17
          refine hK.out _ _ (fun _ => by simp [go_sem, ↓IntWalk.iteOmega, *]) ?_
          clear hK K
          refine wpTr_one rfl rfl (fun K hK => ?_)
          go_simp
          have SY := hid (same_yes (hO (some T)) (bO (some T)) (tO (some T)) (sO (some T)) tl sl ao3 ao4 ao1 ao2 cap3 cap4 cap1 cap2 _ _ _ _ _ ht.1 hs.1 ht.2 hs.2 HM3.out HM4.out ((HM1.out.of HBX.out.size (fun j _ hj => HBX.out.block j hj)).below (by (repeat (first | with_reducible exact Below.rf _ | with_reducible exact World.below_ext _ _ | with_reducible refine Below.ex ?_ _ | with_reducible refine Below.al ?_ _ | with_reducible refine Below.setCell ?_ (by simp) _ | with_reducible refine Below.drew ?_)))) ((HM2.out.of HBX.out.size (fun j _ hj => HBX.out.block j hj)).below (by (repeat (first | with_reducible exact Below.rf _ | with_reducible exact World.below_ext _ _ | with_reducible refine Below.ex ?_ _ | with_reducible refine Below.al ?_ _ | with_reducible refine Below.setCell ?_ (by simp) _ | with_reducible refine Below.drew ?_)))))
          refine SY.out.mono ?_
          rintro e w18 ⟨rfl, hb18⟩
          have HB18 := hid (HBX.out.trans (Below.mono (Below.trans (by (repeat (first | with_reducible exact Below.rf _ | with_reducible exact World.below_ext _ _ | with_reducible refine Below.ex ?_ _ | with_reducible refine Below.al ?_ _ | with_reducible refine Below.setCell ?_ (by simp) _ | with_reducible refine Below.drew ?_))) (hb18.mono (by simp))) sX))
          clear hb18 SY
          refine hK.out _ _ (fun h => by cases h) ?_
          clear hK K
          refine wpTr_one rfl rfl (fun K hK => ?_)
          go_simp
          refine hK.out _ _ (fun h => by cases h) ?_
          clear hK K
          refine wpTr_nil ?_
          refine NoPanic.normal ?_
          go_wp2
          go_roundw
          case rel => exact ⟨i + 1, some T, lab5, by go_num, by omega, HP5.out.below (HB5.out.trans (HB18.out.mono sB5)), HO5.out, HNO5.out⟩
          case measure => simp [intOf]; omega
        · have bR : decide (T.nr ≤ r) = true := by simp; omega
          go_wp2
          first | with_reducible refine wp_region_ext2 (by kernel_rfl) (by kernel_rfl) ?_ | refine wp_region_ext (by kernel_rfl) (by kernel_rfl) ?_
          repeat (go_big_quiet_step ((go_at_call 28; exact Calls.ext_of_same (robots_any M T lab5 _ (HTB.out _ (by (repeat (first | with_reducible exact Below.rf _ | with_reducible exact World.below_ext _ _ | with_reducible refine Below.ex ?_ _ | with_reducible refine Below.al ?_ _ | with_reducible refine Below.setCell ?_ (by simp) _ | with_reducible refine Below.drew ?_))))))))
          refine wpQuiet_nil ?_
          rintro _ ⟨z, rfl⟩
          go_wp2
          go_roundw
          case rel => exact ⟨i + 1, some T, lab5, by go_num, by omega, HP5.out.below (by (repeat (first | with_reducible exact Below.rf _ | with_reducible exact World.below_ext _ _ | with_reducible refine Below.ex ?_ _ | with_reducible refine Below.al ?_ _ | with_reducible refine Below.setCell ?_ (by simp) _ | with_reducible refine Below.drew ?_))), HO5.out, HNO5.out⟩
          case measure => simp [intOf]; omega
    · clear hp
      go_wp2
      go_ret
      exact ⟨rfl, HP.out.bl⟩
end Go.Proofs.Qxb6500717a
