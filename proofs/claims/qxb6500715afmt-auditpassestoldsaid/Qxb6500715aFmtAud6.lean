/-
  Gate and auditBays: the walks.
-/
import Derived.Test.Qxb6500715aFmtAud2
import Derived.Test.Qxb6500715aFmtUfc
import Derived.Test.Qxb6500715aFmtAnch
namespace Go.Proofs.Qxb6500715aFmt
open Go.RowKit
set_option linter.unusedSimpArgs false
set_option linter.unusedVariables false
/-- The owner of a bay. -/
theorem ownr_bay {F : FP} (hp : Pln F) {r : Nat} : ∀ n, r < n → n ≤ F.n → ownr F.kd F.W F.px F.py n (F.bay r) = (r : Int)
  | 0, h, _ => by omega
  | n + 1, h, hn => by
    simp only [ownr]
    by_cases e : cnt (fun t => drv (F.kd t)) (F.px n * F.W + F.py n) = F.bay r
    · rw [if_pos e]
      have := bay_inj hp (r := n) (r' := r) (by omega) (by omega) e
      omega
    · rw [if_neg e]
      refine ownr_bay hp n ?_ (by omega)
      by_cases e2 : r = n
      · subst e2; exact absurd rfl e
      · omega
/-- What is known of a bay. -/
theorem bay_facts {F : FP} (hp : Pln F) {r : Nat} (hr : r < F.n) : ∃ g gr, F.bay r < F.N ∧ F.kd (F.pl (F.bay r)) = 7 ∧ F.adj (F.bay r) = [g] ∧ g < F.N ∧ (F.kd (F.pl g) = 5 ∨ F.kd (F.pl g) = 6) ∧ g = F.id (gr * F.W + F.col (F.bay r)) ∧
    ((F.row (F.bay r) = 0 ∧ gr = 1) ∨ (1 ≤ F.row (F.bay r) ∧ gr = F.S + 2)) ∧ gr * F.W + F.col (F.bay r) < F.L ∧ drv (F.kd (gr * F.W + F.col (F.bay r))) = true := by
  obtain ⟨⟨b1, b2⟩, b3, b4, b5, b6, b7⟩ := bay_spec hp hr
  obtain ⟨g, hg, gN, gk⟩ := bay_adj hp hr
  have hB : F.isB (F.bay r) := by unfold FP.isB; rw [b5]; exact b3
  have hga := gate_adj hp b4 hB
  rw [hg, List.mem_singleton] at hga
  have ho := anchor_on hp b4
  obtain ⟨h1, h2, h3, h4⟩ := on_place hp ho
  have hlt : F.ar (F.bay r) * F.W + F.col (F.bay r) < F.L := by
    have h5 := Nat.mul_le_mul_right F.W (show F.ar (F.bay r) + 1 ≤ F.S + 4 by omega)
    rw [Nat.add_mul, Nat.one_mul, Nat.mul_comm (F.S + 4), ← hp.pl.hL] at h5
    omega
  refine ⟨g, F.ar (F.bay r), b4, hB, hg, gN, gk, hga.symm, ?_, hlt, h3⟩
  have hx := (hp.lay.hx r hr).1
  have hrow : F.row (F.bay r) = F.px r := b6
  unfold FP.ar
  rw [if_pos hB, hrow]
  by_cases e : F.px r = 0
  · exact Or.inl ⟨e, if_pos e⟩
  · exact Or.inr ⟨by omega, if_neg e⟩
set_option maxRecDepth 20000 in
set_option maxHeartbeats 2000000 in
theorem gate_any (F : FP) (c g gr : Nat) (w : World) (h : FlN w F) (hc : c < F.N) (h7 : F.kd (F.pl c) = 7) (hg : g = F.id (gr * F.W + F.col c)) (hr : (F.row c = 0 ∧ gr = 1) ∨ (1 ≤ F.row c ∧ gr = F.S + 2)) (hlt : gr * F.W + F.col c < F.L) (hd : drv (F.kd (gr * F.W + F.col c)) = true) :
    Calls Tryf.prog 27 #[.pointer (some ⟨F.fb, 0, none⟩), .int .i64 (c)] w fun e w' => e = .returned (.tuple #[.int .i64 (g), .bool true]) ∧ ∃ z, w' = w.ext z := by
  have HH := hid h
  have hp := h.pln
  have IB := hid (isBay_any F c true w h hc (by rw [own_bay hp hc, h7]; rfl))
  have i10 := h.num.i10
  have i11 := h.num.i11
  have hq := h.num.lt.2.1
  have hil := h.num.lt.1
  have hqc := h.num.qc
  have hfb := h.hdr.hfb
  have d7 := h.hdr.h7
  have p0 := h.num.pos0 c hc
  have p1 := h.num.pos1 c hc
  rw [Nat.zero_add] at p0 p1
  rw [show plc (fun t => drv (F.kd t)) F.L c / F.W = F.row c from rfl] at p0
  rw [show plc (fun t => drv (F.kd t)) F.L c % F.W = F.col c from rfl] at p1
  obtain ⟨c1, c2, c3, c4, c5⟩ := cell_on hp hc
  have hS := h.lay.hS
  have hWb := h.hWb
  have hLb := h.hLb
  have did := h.num.ids _ hlt
  rw [if_pos hd, show cnt (fun t => drv (F.kd t)) (gr * F.W + F.col c) = F.id (gr * F.W + F.col c) from rfl, ← hg] at did
  obtain ⟨ix, hix⟩ : ∃ ix, gr * F.W + F.col c = ix := ⟨_, rfl⟩
  have e3 : (gr : Int) * (F.W : Int) + (F.col c : Int) = (ix : Int) := by rw [← hix]; push_cast; rfl
  have hm3 : gr * F.W ≤ 1000000 := by omega
  have hcm := Int.natCast_mul gr F.W
  have hm4 : (gr : Int) * (F.W : Int) ≤ 1000000 := by rw [← hcm]; exact Int.ofNat_le.2 hm3
  have hm5 : (0 : Int) ≤ (gr : Int) * (F.W : Int) := by rw [← hcm]; exact Int.natCast_nonneg _
  have IX := hid (fun (w' : World) h1 h2 => e3 ▸ index_any F.fb F.W gr (F.col c) w' h1 h2 (by omega) (by omega))
  rw [hix] at did hlt
  clear hix e3 hm3 hcm hm4 hm5 hg hd c3 c4 c5 hp h7
  generalize F.row c = rr at *
  generalize F.col c = qq at *
  rcases hr with ⟨rfl, rfl⟩ | ⟨hr1, rfl⟩
  · clear h
    go_enter Tryf.func27, Tryf.ntmps27
    go_wp2_with (go_at_call 32; refine IB.out.mono ?_; rintro e w' ⟨rfl, hw'⟩; obtain rfl := hw'.symm)
    first | with_reducible refine wp_region_ext2 (by kernel_rfl) (by kernel_rfl) ?_ | refine wp_region_ext (by kernel_rfl) (by kernel_rfl) ?_
    repeat (go_big_quiet_step (first | (go_at_call 54; exact Calls.ext_of (gatePos_front F qq _)) | (go_at_call 21; exact Calls.ext_of (IX.out _ (by (first | omega | (simp only [World.size_ext, World.size_alloc, World.size_setCell, World.size_drew, Array.size_append]; done) | (simp only [World.size_ext, World.size_alloc, World.size_setCell, World.size_drew, Array.size_append]; omega))) (by simp [go_sem, ↓IntWalk.iteOmega]; exact d7)))))
    refine wpQuiet_nil ?_
    rintro _ ⟨z, rfl⟩
    go_wp2
    go_ret2
    refine ⟨rfl, ?_⟩
    refine Below.is_ext ?_
    repeat (first | with_reducible exact Below.rf _ | with_reducible exact World.below_ext _ _ | with_reducible refine Below.ex ?_ _ | with_reducible refine Below.al ?_ _ | with_reducible refine Below.setCell ?_ (by simp) _ | with_reducible refine Below.drew ?_)
  · clear h
    go_enter Tryf.func27, Tryf.ntmps27
    go_wp2_with (go_at_call 32; refine IB.out.mono ?_; rintro e w' ⟨rfl, hw'⟩; obtain rfl := hw'.symm)
    first | with_reducible refine wp_region_ext2 (by kernel_rfl) (by kernel_rfl) ?_ | refine wp_region_ext (by kernel_rfl) (by kernel_rfl) ?_
    repeat (go_big_quiet_step (first | (go_at_call 54; exact Calls.ext_of (gatePos_back F rr qq _ (HH.out.ex _) hr1)) | (go_at_call 21; exact Calls.ext_of (IX.out _ (by (first | omega | (simp only [World.size_ext, World.size_alloc, World.size_setCell, World.size_drew, Array.size_append]; done) | (simp only [World.size_ext, World.size_alloc, World.size_setCell, World.size_drew, Array.size_append]; omega))) (by simp [go_sem, ↓IntWalk.iteOmega]; exact d7)))))
    refine wpQuiet_nil ?_
    rintro _ ⟨z, rfl⟩
    go_wp2
    go_ret2
    refine ⟨rfl, ?_⟩
    refine Below.is_ext ?_
    repeat (first | with_reducible exact Below.rf _ | with_reducible exact World.below_ext _ _ | with_reducible refine Below.ex ?_ _ | with_reducible refine Below.al ?_ _ | with_reducible refine Below.setCell ?_ (by simp) _ | with_reducible refine Below.drew ?_)
theorem bays_own {F : FP} (hp : Pln F) : cntB (fun x => decide (0 ≤ ownr F.kd F.W F.px F.py F.n x)) F.N = F.n := by
  rw [cntB_congr (q := fun x => decide (F.kd (F.pl x) = 7)) F.N (fun i hi => own_bay hp hi)]
  exact bays_cnt hp
set_option maxRecDepth 20000 in
set_option maxHeartbeats 4000000 in
theorem audBays (F : FP) (sb cb : Nat) (w : World) (h : FlN w F) (hl : Lnk w F sb cb) (hN : F.N ≤ 384) :
    Calls Tryf.prog 12 #[.pointer (some ⟨F.fb, 0, none⟩)] w fun e w' => e = .returned .nilIface ∧ ∃ z, w' = w.ext z := by
  have H := hid h
  have HL := hid hl
  have hp := hid h.pln
  have i13 := h.num.i13
  have i14 := h.num.i14
  have hfb := h.hdr.hfb
  have hab := h.num.lt.2.2.1
  have hob := h.num.lt.2.2.2
  have hn := h.lay.hn
  clear h hl
  go_enter Tryf.func12, Tryf.ntmps12
  go_wp2
  go_loopw [3, 16] (fun x v wr => ∃ i : Nat, v = .int .i64 (i) ∧ x = .int .i64 (cntB (fun x => decide (0 ≤ ownr F.kd F.W F.px F.py F.n x)) i) ∧ i ≤ F.N ∧ wr = w) (fun _ v _ => F.N - (intOf v).toNat)
  case atStart => exact ⟨0, rfl, rfl, Nat.zero_le _, rfl⟩
  case round =>
    obtain ⟨i, rfl, rfl, hi, rfl⟩ := hrel
    have hle := cntB_le (fun x => decide (0 ≤ ownr F.kd F.W F.px F.py F.n x)) i
    by_cases e : i < F.N
    · have ov := H.out.num.own i e
      have hs : cntB (fun x => decide (0 ≤ ownr F.kd F.W F.px F.py F.n x)) (i + 1) = cntB (fun x => decide (0 ≤ ownr F.kd F.W F.px F.py F.n x)) i + if decide (0 ≤ ownr F.kd F.W F.px F.py F.n i) = true then 1 else 0 := rfl
      have di : decide ((i : Int) < (F.N : Int)) = true := by simp; omega
      obtain ⟨o, ho⟩ : ∃ o, ownr F.kd F.W F.px F.py F.n i = o := ⟨_, rfl⟩
      rw [ho] at ov hs
      obtain ⟨x, hx⟩ : ∃ o, cntB (fun x => decide (0 ≤ ownr F.kd F.W F.px F.py F.n x)) i = o := ⟨_, rfl⟩
      rw [hx] at hle hs
      rw [hx]
      clear ho hx
      by_cases e2 : 0 ≤ o
      · have d0 : decide ((0 : Int) ≤ o) = true := by simp; omega
        rw [d0] at hs
        have HS := hid hs
        clear hs
        go_wp2
        go_roundw
        case rel => exact ⟨i + 1, by go_num, by rw [HS.out]; go_num, by omega, trivial⟩
        case measure => simp [intOf]; omega
      · have d0 : decide ((0 : Int) ≤ o) = false := by simp; omega
        rw [d0] at hs
        have HS := hid hs
        clear hs
        go_wp2
        go_roundw
        case rel => exact ⟨i + 1, by go_num, by rw [HS.out]; go_num, by omega, trivial⟩
        case measure => simp [intOf]; omega
    · have hie : i = F.N := by omega
      have di : decide ((i : Int) < (F.N : Int)) = false := by simp; omega
      have hbo := bays_own hp.out
      rw [hie, hbo]
      have bn : ((F.n : Int) != (F.n : Int)) = false := by simp
      clear hle hbo hie
      go_wp2
      obtain ⟨w0, hw0⟩ : ∃ w0, wr = w0 := ⟨_, rfl⟩
      subst hw0
      go_loopw [47] (fun v w2 => ∃ r : Nat, v = .int .i64 (r) ∧ r ≤ F.n ∧ Below wr.heap.size wr w2) (fun v _ => F.n - (intOf v).toNat)
      case atStart => exact ⟨0, rfl, Nat.zero_le _, Below.rf _⟩
      case round =>
        obtain ⟨r, rfl, hr, hB⟩ := hrel
        clear i13 i14 hfb hab hob bn
        have HB := hid hB
        have HF := hid (H.out.below hB)
        have HLr := hid (HL.out.below hB)
        have i14 := HF.out.num.i14
        have hfb := HF.out.hdr.hfb
        have hab := HF.out.num.lt.2.2.1
        have hob := HF.out.num.lt.2.2.2
        have hcl := HLr.out.lt.2
        clear hB
        by_cases e2 : r < F.n
        · have dr : decide ((r : Int) < (F.n : Int)) = true := by simp; omega
          have hpk : wr.cell? ⟨F.ab, r, none⟩ = some (.int .i64 (F.bay r)) := HF.out.num.park r e2
          obtain ⟨g, gr, f1, f2, f3, f4, f5, f6, f7, f8, f9⟩ := bay_facts hp.out e2
          have ov := HF.out.num.own (F.bay r) f1
          rw [ownr_bay hp.out F.n e2 (Nat.le_refl _)] at ov
          have KO := hid (fun w' h' => kindOf_is F (F.bay r) 7 w' h' f1 f2)
          have GA := hid (fun w' h' => gate_any F (F.bay r) g gr w' h' f1 f2 f6 f7 f8 f9)
          have NB := hid (fun w' h' h2 => neighbors_is F sb cb (F.bay r) 1 (F.no (F.bay r)) w' h' h2 hN f1 (by rw [f3]; rfl) rfl)
          have nbv := HLr.out.nb f1 (j := 0) (by rw [f3]; simp)
          have hg0 : (F.adj (F.bay r))[0]'(by rw [f3]; simp) = g := by simp [f3]
          rw [hg0, Nat.add_zero] at nbv
          have OC := hid (fun w' h' => onCross_yes F g _ w' h' f4 rfl f5)
          obtain ⟨no, hno⟩ : ∃ no, F.no (F.bay r) = no := ⟨_, rfl⟩
          rw [hno] at nbv NB
          generalize F.bay r = bay at *
          have br : ((r : Int) != (r : Int)) = false := by simp
          have bg : ((g : Int) != (g : Int)) = false := by simp
          clear f2 f3 f5 f6 f7 f8 f9 hg0 hno
          go_wp2_with (first | (go_at_call 22; refine (KO.out _ (HF.out.below (by (repeat (first | with_reducible exact Below.rf _ | with_reducible exact World.below_ext _ _ | with_reducible refine Below.ex ?_ _ | with_reducible refine Below.al ?_ _ | with_reducible refine Below.setCell ?_ (by simp) _ | with_reducible refine Below.drew ?_))))).mono ?_; rintro e w' ⟨rfl, z1, rfl⟩) | (go_at_call 27; refine (GA.out _ (HF.out.below (by (repeat (first | with_reducible exact Below.rf _ | with_reducible exact World.below_ext _ _ | with_reducible refine Below.ex ?_ _ | with_reducible refine Below.al ?_ _ | with_reducible refine Below.setCell ?_ (by simp) _ | with_reducible refine Below.drew ?_))))).mono ?_; rintro e w' ⟨rfl, z2, rfl⟩) | (go_at_call 23; refine (NB.out _ (HF.out.below (by (repeat (first | with_reducible exact Below.rf _ | with_reducible exact World.below_ext _ _ | with_reducible refine Below.ex ?_ _ | with_reducible refine Below.al ?_ _ | with_reducible refine Below.setCell ?_ (by simp) _ | with_reducible refine Below.drew ?_)))) (HLr.out.below (by (repeat (first | with_reducible exact Below.rf _ | with_reducible exact World.below_ext _ _ | with_reducible refine Below.ex ?_ _ | with_reducible refine Below.al ?_ _ | with_reducible refine Below.setCell ?_ (by simp) _ | with_reducible refine Below.drew ?_))))).mono ?_; rintro e w' ⟨rfl, z3, rfl⟩) | (go_at_call 28; refine (OC.out _ (HF.out.below (by (repeat (first | with_reducible exact Below.rf _ | with_reducible exact World.below_ext _ _ | with_reducible refine Below.ex ?_ _ | with_reducible refine Below.al ?_ _ | with_reducible refine Below.setCell ?_ (by simp) _ | with_reducible refine Below.drew ?_))))).mono ?_; rintro e w' ⟨rfl, z4, rfl⟩))
          go_roundw
          case rel =>
            refine ⟨r + 1, by go_num, by omega, HB.out.trans (Below.mono ?_ HB.out.size)⟩
            (repeat (first | with_reducible exact Below.rf _ | with_reducible exact World.below_ext _ _ | with_reducible refine Below.ex ?_ _ | with_reducible refine Below.al ?_ _ | with_reducible refine Below.setCell ?_ (by simp) _ | with_reducible refine Below.drew ?_))
          case measure => simp [intOf]; omega
        · have dr : decide ((r : Int) < (F.n : Int)) = false := by simp; omega
          go_wp2
          go_ret
          exact ⟨rfl, HB.out.is_ext⟩
end Go.Proofs.Qxb6500715aFmt
