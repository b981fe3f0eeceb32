/-
  Reserve, drop: the walks.
-/
import Derived.Test.Qxb6500717aGreatPut
namespace Go.Proofs.Qxb6500717aGreat
open Go.RowKit
set_option linter.unusedSimpArgs false
set_option linter.unusedVariables false

/-- Robot r is put on cell c at tick t. -/
def TabS.put (T : TabS) (r c t : Nat) : TabS :=
  { T with pl := upd2 T.pl r (t % 256) c, gr := upd T.gr (t % 256 * T.nc + c) ((r + 1 : Nat) : Int), held := T.held + 1 }
/-- What 'Reserve' answers and leaves. -/
def TabS.reserve (T : TabS) (r c t : Int) : Int × TabS :=
  if T.place r c t ≠ 0 then (T.place r c t, T)
  else if T.at r.toNat t ≠ -1 then (5, T)
  else if T.hold c.toNat t ≠ -1 then (6, T)
  else if T.joins r.toNat c.toNat t = true then (7, T)
  else if T.cap ≤ T.held then (8, T)
  else (0, T.put r.toNat c.toNat t.toNat)

theorem TabS.place_zero {T : TabS} {r c t : Int} (h : T.place r c t = 0) : (0 ≤ r ∧ r < T.nr) ∧ (0 ≤ c ∧ c < T.nc) ∧ ((T.base : Int) ≤ t ∧ t < (T.base : Int) + 256) := by
  unfold TabS.place at h
  split at h
  · cases h
  · rename_i h1
    split at h
    · cases h
    · split at h
      · cases h
      · simp at h1
        omega

/-- What 'Reserve' hands back. -/
def resPost (lab : Nat → Nat) (M : TabM) (T : TabS) (r c t : Int) (w : World) (e : Ending) (w' : World) : Prop :=
  e = .returned (.int .u8 (T.reserve r c t).1) ∧ TAt w' lab M (T.reserve r c t).2 ∧ KeptL lab (fun x => x = 6 ∨ x = 7 ∨ x = 10 + r.toNat) w w'

set_option maxRecDepth 20000 in
set_option maxHeartbeats 4000000 in
theorem reserve_any (M : TabM) (T : TabS) (lab : Nat → Nat) (r c t : Int) (w : World) (h : TAt w lab M T) :
    Calls Tryz.prog 27 #[.pointer (some ⟨M.t, 0, none⟩), .int .i64 (r), .int .i64 (c), .int .i64 (t)] w (resPost lab M T r c t w) := by
  have HH := hid h
  have PL := hid (place_any M T lab r c t w h)
  have hl1 := h.bt.lt
  by_cases hp : T.place r c t ≠ 0
  · have e0 : T.reserve r c t = (T.place r c t, T) := by unfold TabS.reserve; rw [if_pos hp]
    generalize T.place r c t = x at *
    have b1 : (x != 0) = true := by simpa using hp
    have b2 : (x == 0) = false := by simpa using hp
    have E0 := hid e0
    clear h hp e0
    go_enter Tryz.func27, Tryz.ntmps27
    go_wp2_with (go_at_call 68; refine PL.out.mono ?_; rintro e w ⟨rfl, rfl⟩)
    go_ret
    refine ⟨by rw [E0.out]; rfl, by rw [E0.out]; exact HH.out, KeptL.refl _ _ _⟩
  · have hp0 : T.place r c t = 0 := by simpa using hp
    obtain ⟨⟨r0, r1⟩, ⟨q0, q1⟩, t0, t1⟩ := TabS.place_zero hp0
    rw [hp0] at PL
    obtain ⟨rn, rfl⟩ : ∃ rn : Nat, r = rn := ⟨r.toNat, by omega⟩
    obtain ⟨cn, rfl⟩ : ∃ cn : Nat, c = cn := ⟨c.toNat, by omega⟩
    obtain ⟨tn, rfl⟩ : ∃ tn : Nat, t = tn := ⟨t.toNat, by omega⟩
    have hr : rn < T.nr := by omega
    have hc : cn < T.nc := by omega
    have hbb := h.bd.base
    have e0 : T.reserve rn cn tn = if T.at rn tn ≠ -1 then (5, T) else if T.hold cn tn ≠ -1 then (6, T) else if T.joins rn cn tn = true then (7, T) else if T.cap ≤ T.held then (8, T) else (0, T.put rn cn tn) := by
      unfold TabS.reserve; rw [if_neg (by rw [hp0]; simp)]; rfl
    have A1 := hid (at_any M T lab rn tn w h hr)
    have H1 := hid (fun z => hold_any M T lab cn tn (w.ext z) (h.ex z) hc)
    have J1 := hid (fun z => joins_any M T lab rn cn tn (w.ext z) (h.ex z) hr hc (by omega))
    unfold resPost
    rw [e0]
    clear hp hp0 e0
    generalize T.at rn tn = x at *
    by_cases hx : x ≠ -1
    · rw [if_pos hx]
      have b1 : (x != -1) = true := by simpa using hx
      have b2 : (x == -1) = false := by simpa using hx
      clear h hx
      go_enter Tryz.func27, Tryz.ntmps27
      go_wp2_with (first | (go_at_call 68; refine PL.out.mono ?_; rintro e w ⟨rfl, rfl⟩) | (go_at_call 69; refine A1.out.mono ?_; rintro e w' ⟨rfl, z1, rfl⟩))
      go_ret
      exact ⟨rfl, HH.out.ex _, (KeptL.refl _ _ _).ex _⟩
    · have hx1 : x = -1 := by simpa using hx
      subst hx1
      rw [if_neg hx]
      clear hx
      generalize T.hold cn tn = y at *
      by_cases hy : y ≠ -1
      · rw [if_pos hy]
        have b1 : (y != -1) = true := by simpa using hy
        have b2 : (y == -1) = false := by simpa using hy
        clear h hy
        go_enter Tryz.func27, Tryz.ntmps27
        go_wp2_with (first | (go_at_call 68; refine PL.out.mono ?_; rintro e w ⟨rfl, rfl⟩) | (go_at_call 69; refine A1.out.mono ?_; rintro e w' ⟨rfl, z1, rfl⟩) | (go_at_call 70; refine (H1.out _).mono ?_; rintro e w' ⟨rfl, z2, rfl⟩))
        go_ret
        exact ⟨rfl, HH.out.ex _, (KeptL.refl _ _ _).ex _⟩
      · have hy1 : y = -1 := by simpa using hy
        subst hy1
        rw [if_neg hy]
        clear hy
        cases hj : T.joins rn cn tn with
        | true =>
          rw [hj] at J1
          rw [if_pos rfl]
          clear h hj
          go_enter Tryz.func27, Tryz.ntmps27
          go_wp2_with (first | (go_at_call 68; refine PL.out.mono ?_; rintro e w ⟨rfl, rfl⟩) | (go_at_call 69; refine A1.out.mono ?_; rintro e w' ⟨rfl, z1, rfl⟩) | (go_at_call 70; refine (H1.out _).mono ?_; rintro e w' ⟨rfl, z2, rfl⟩) | (go_at_call 71; refine (J1.out _).mono ?_; rintro e w' ⟨rfl, z3, rfl⟩))
          go_ret
          exact ⟨rfl, HH.out.ex _, (KeptL.refl _ _ _).ex _⟩
        | false =>
          rw [hj] at J1
          rw [if_neg (by simp)]
          have c2 := h.c2
          have c4 := h.c4
          have hcap := h.bd.cap
          have hheld := h.bd.held
          by_cases hf : T.cap ≤ T.held
          · rw [if_pos hf]
            have bf : decide (T.cap ≤ T.held) = true := by simp; omega
            clear h hj hf
            go_enter Tryz.func27, Tryz.ntmps27
            go_wp2_with (first | (go_at_call 68; refine PL.out.mono ?_; rintro e w ⟨rfl, rfl⟩) | (go_at_call 69; refine A1.out.mono ?_; rintro e w' ⟨rfl, z1, rfl⟩) | (go_at_call 70; refine (H1.out _).mono ?_; rintro e w' ⟨rfl, z2, rfl⟩) | (go_at_call 71; refine (J1.out _).mono ?_; rintro e w' ⟨rfl, z3, rfl⟩))
            first | with_reducible refine wp_region_ext2 (by kernel_rfl) (by kernel_rfl) ?_ | refine wp_region_ext (by kernel_rfl) (by kernel_rfl) ?_
            repeat (go_big_quiet_step (fail))
            refine wpQuiet_nil ?_
            rintro _ ⟨z, rfl⟩
            go_wp2
            go_ret
            exact ⟨rfl, HH.out.ex _, (KeptL.refl _ _ _).ex _⟩
          · rw [if_neg hf]
            have bf : decide (T.cap ≤ T.held) = false := by simp; omega
            have hand := and255 tn (by omega)
            obtain ⟨sl, hsl⟩ : ∃ sl, tn % 256 = sl := ⟨_, rfl⟩
            have hsl2 : sl < 256 := by omega
            unfold TabS.put
            rw [hsl] at hand ⊢
            obtain ⟨mm, hmm⟩ : ∃ mm, sl * T.nc = mm := ⟨_, rfl⟩
            have hm2 : mm + cn < 256 * T.nc := by
              have h1 := Nat.mul_le_mul_right T.nc (show sl + 1 ≤ 256 by omega)
              rw [Nat.add_mul, Nat.one_mul, hmm] at h1
              omega
            have e1 : (sl : Int) * (T.nc : Int) = mm := by rw [← hmm]; exact (Int.natCast_mul _ _).symm
            rw [hmm]
            have hnc := h.bd.nc
            have hnr := h.bd.nr
            have c0 := h.c0
            have c5 := h.c5
            have c6 := h.c6
            have cp := h.bp.is rn hr
            have cq := (h.bpr rn hr).is sl hsl2
            have fq := (h.bpr rn hr).fz sl hsl2
            have cg := h.bg.is (mm + cn) hm2
            have fg := h.bg.fz (mm + cn) hm2
            have f4 := h.bt.fz 4 (by omega)
            have l1 := h.bp.lt
            have l2 := (h.bpr rn hr).lt
            have l3 := h.bg.lt
            have n1 : M.pr rn ≠ M.t := fun e => by have := h.lpr rn hr; rw [e, h.lt] at this; omega
            have n2 : M.pr rn ≠ M.g := fun e => by have := h.lpr rn hr; rw [e, h.lg] at this; omega
            have n3 : M.g ≠ M.t := fun e => by have := h.lg; rw [e, h.lt] at this; omega
            have n4 : M.pr rn ≠ M.p := fun e => by have := h.lpr rn hr; rw [e, h.lp] at this; omega
            clear h hj hsl hmm
            go_enter Tryz.func27, Tryz.ntmps27
            go_wp2_with (first | (go_at_call 68; refine PL.out.mono ?_; rintro e w ⟨rfl, rfl⟩) | (go_at_call 69; refine A1.out.mono ?_; rintro e w' ⟨rfl, z1, rfl⟩) | (go_at_call 70; refine (H1.out _).mono ?_; rintro e w' ⟨rfl, z2, rfl⟩) | (go_at_call 71; refine (J1.out _).mono ?_; rintro e w' ⟨rfl, z3, rfl⟩))
            first | with_reducible refine wp_region_ext2 (by kernel_rfl) (by kernel_rfl) ?_ | refine wp_region_ext (by kernel_rfl) (by kernel_rfl) ?_
            repeat (go_big_quiet_step (fail))
            refine wpQuiet_nil ?_
            rintro _ ⟨z, rfl⟩
            go_wp2
            first | with_reducible refine wp_region_tail_ext2 15 (by kernel_rfl) (by kernel_rfl) ?_ | refine wp_region_tail_ext 15 (by kernel_rfl) (by kernel_rfl) ?_
            simp only [List.take_succ_cons, List.take_zero, List.drop_succ_cons, List.drop_zero]
            repeat (go_big_quiet_step (fail))
            refine wpQuiet_nil ?_
            rintro _ ⟨z, rfl⟩
            go_wp2
            go_ret
            refine ⟨rfl, ?_, ?_⟩
            · have h1 := ((HH.out.setP hr hsl2 cn (by omega)).setG (i := mm + cn) hm2 ((rn + 1 : Nat) : Int) (by show 0 ≤ ((rn + 1 : Nat) : Int) ∧ ((rn + 1 : Nat) : Int) ≤ (T.nr : Int); omega)).setH (T.held + 1) (by show T.held + 1 ≤ T.cap; omega)
              exact h1.ex _
            · refine KeptL.ex ?_ _
              have hl := HH.out.lpr rn hr
              exact (((KeptL.refl lab _ w).set (Or.inr (Or.inr hl)) _).set (Or.inr (Or.inl HH.out.lg)) _).set (Or.inl HH.out.lt) _

/-- Robot r's timed reservation at a slot is struck. -/
def TabS.drop (T : TabS) (r s : Nat) : Bool × TabS :=
  if T.pl r s = -1 then (false, T) else (true, { T with pl := upd2 T.pl r s (-1), gr := upd T.gr (s * T.nc + (T.pl r s).toNat) 0, held := T.held - 1 })

def dropPost (lab : Nat → Nat) (M : TabM) (T : TabS) (r s : Nat) (w : World) (e : Ending) (w' : World) : Prop :=
  e = .returned (.bool (T.drop r s).1) ∧ TAt w' lab M (T.drop r s).2 ∧ KeptL lab (fun x => x = 6 ∨ x = 7 ∨ x = 10 + r) w w'

set_option maxRecDepth 20000 in
set_option maxHeartbeats 4000000 in
theorem drop_any (M : TabM) (T : TabS) (lab : Nat → Nat) (r tn sl : Nat) (w : World) (h : TAt w lab M T) (hr : r < T.nr) (ht : tn ≤ 2000000000) (hsl : tn % 256 = sl) (hh : T.pl r sl ≠ -1 → 1 ≤ T.held) :
    Calls Tryz.prog 67 #[.pointer (some ⟨M.t, 0, none⟩), .int .i64 (r), .int .i64 (tn)] w (dropPost lab M T r sl w) := by
  have HH := hid h
  have hand := and255 tn ht
  have hsl2 : sl < 256 := by omega
  rw [hsl] at hand
  have c0 := h.c0
  have c4 := h.c4
  have c5 := h.c5
  have c6 := h.c6
  have cp := h.bp.is r hr
  have cq := (h.bpr r hr).is sl hsl2
  have fq := (h.bpr r hr).fz sl hsl2
  have f4 := h.bt.fz 4 (by omega)
  have l0 := h.bt.lt
  have l1 := h.bp.lt
  have l2 := (h.bpr r hr).lt
  have l3 := h.bg.lt
  have hnr := h.bd.nr
  have hnc := h.bd.nc
  have hcap := h.bd.cap
  have hheld := h.bd.held
  have hpb := h.bd.pl r sl hr hsl2
  unfold dropPost TabS.drop
  obtain ⟨pv, hpv⟩ : ∃ pv, T.pl r sl = pv := ⟨_, rfl⟩
  rw [hpv] at cq hpb hh ⊢
  by_cases hm : pv = -1
  · rw [if_pos hm]
    rw [hm] at cq
    clear h hpb hpv hm hsl hh
    go_enter Tryz.func67, Tryz.ntmps67
    go_wp2
    go_ret
    exact ⟨rfl, HH.out, KeptL.refl _ _ _⟩
  · rw [if_neg hm]
    have hh1 := hh hm
    obtain ⟨pn, rfl⟩ : ∃ pn : Nat, pv = pn := ⟨pv.toNat, by omega⟩
    rw [Int.toNat_natCast]
    have b1 : ((pn : Int) == -1) = false := by simp
    obtain ⟨mm, hmm⟩ : ∃ mm, sl * T.nc = mm := ⟨_, rfl⟩
    have hm2 : mm + pn < 256 * T.nc := by
      have h1 := Nat.mul_le_mul_right T.nc (show sl + 1 ≤ 256 by omega)
      rw [Nat.add_mul, Nat.one_mul, hmm] at h1
      omega
    have e1 : (sl : Int) * (T.nc : Int) = mm := by rw [← hmm]; exact (Int.natCast_mul _ _).symm
    rw [hmm]
    have cg := h.bg.is (mm + pn) hm2
    have fg := h.bg.fz (mm + pn) hm2
    have n1 : M.pr r ≠ M.t := fun e => by have := h.lpr r hr; rw [e, h.lt] at this; omega
    have n2 : M.pr r ≠ M.g := fun e => by have := h.lpr r hr; rw [e, h.lg] at this; omega
    have n3 : M.g ≠ M.t := fun e => by have := h.lg; rw [e, h.lt] at this; omega
    have n4 : M.pr r ≠ M.p := fun e => by have := h.lpr r hr; rw [e, h.lp] at this; omega
    clear h hpv hm hsl hh hmm
    go_enter Tryz.func67, Tryz.ntmps67
    go_wp2
    first | with_reducible refine wp_region_tail_ext2 13 (by kernel_rfl) (by kernel_rfl) ?_ | refine wp_region_tail_ext 13 (by kernel_rfl) (by kernel_rfl) ?_
    simp only [List.take_succ_cons, List.take_zero, List.drop_succ_cons, List.drop_zero]
    repeat (go_big_quiet_step (fail))
    refine wpQuiet_nil ?_
    rintro _ ⟨z, rfl⟩
    go_wp2
    go_ret
    refine ⟨rfl, ?_, ?_⟩
    · have h1 := ((HH.out.setP hr hsl2 (-1) (by omega)).setG (i := mm + pn) hm2 0 (by show (0 : Int) ≤ 0 ∧ (0 : Int) ≤ (T.nr : Int); omega)).setH (T.held - 1) (by show T.held - 1 ≤ T.cap; omega)
      rw [show ((T.held - 1 : Nat) : Int) = (T.held : Int) - 1 by omega] at h1
      exact h1.ex _
    · refine KeptL.ex ?_ _
      have hl := HH.out.lpr r hr
      exact (((KeptL.refl lab _ w).set (Or.inr (Or.inr hl)) _).set (Or.inr (Or.inl HH.out.lg)) _).set (Or.inl HH.out.lt) _
end Go.Proofs.Qxb6500717aGreat
