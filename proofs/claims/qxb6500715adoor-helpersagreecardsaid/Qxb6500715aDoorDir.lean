/-
  Reachable, DirTo, Step: the walks.
-/
import Derived.Test.Qxb6500715aDoorRte
namespace Go.Proofs.Qxb6500715aDoor
open Go.RowKit
set_option linter.unusedSimpArgs false
set_option linter.unusedVariables false


/-- The move from a to b. -/
def dirOf (ra qa rb qb : Nat) : Nat := if rb < ra then 1 else if ra < rb then 4 else if qb < qa then 2 else if qa < qb then 3 else 0
theorem dirOf_le (ra qa rb qb : Nat) : dirOf ra qa rb qb ≤ 4 := by unfold dirOf; (repeat' split) <;> omega
theorem dirOf_sh {ra qa rb qb : Nat} (h : one ra qa rb qb) : 1 ≤ dirOf ra qa rb qb ∧ sh ra qa (dirOf ra qa rb qb) = ((rb : Int), (qb : Int)) := by
  unfold one at h
  unfold dirOf
  rcases h with ⟨rfl, h | h⟩ | ⟨rfl, h | h⟩
  · rw [if_neg (by omega), if_neg (by omega), if_neg (by omega), if_pos (by omega)]
    exact ⟨by omega, by simp [sh]; omega⟩
  · rw [if_neg (by omega), if_neg (by omega), if_pos (by omega)]
    exact ⟨by omega, by simp [sh]; omega⟩
  · rw [if_neg (by omega), if_pos (by omega)]
    exact ⟨by omega, by simp [sh]; omega⟩
  · rw [if_pos (by omega)]
    exact ⟨by omega, by simp [sh]; omega⟩

def FP.dir (F : FP) (a b : Nat) : Nat := dirOf (F.row a) (F.col a) (F.row b) (F.col b)

theorem index_is (F : FP) (r q ix : Nat) (w : World) (hfb : F.fb < w.heap.size) (h7 : w.cell? ⟨F.fb, 7, none⟩ = some (.int .i64 (F.W))) (hix : r * F.W + q = ix) (hb : ix ≤ 1000000) :
    Calls Tryd.prog 64 #[.pointer (some ⟨F.fb, 0, none⟩), .agg #[.int .i64 (r), .int .i64 (q)]] w fun e w' => e = .returned (.int .i64 (ix)) ∧ ∃ z, w' = w.ext z := by
  have e3 : (r : Int) * (F.W : Int) + (q : Int) = (ix : Int) := by rw [← hix]; push_cast; rfl
  have hm3 : r * F.W ≤ 1000000 := by omega
  have hc := Int.natCast_mul r F.W
  have hm4 : (r : Int) * (F.W : Int) ≤ 1000000 := by rw [← hc]; exact Int.ofNat_le.2 hm3
  have hm5 : (0 : Int) ≤ (r : Int) * (F.W : Int) := by rw [← hc]; exact Int.natCast_nonneg _
  exact e3 ▸ index_any F.fb F.W r q w hfb h7 (by omega) (by omega)

theorem reachable_any (F : FP) (sb cb a b : Nat) (w : World) (h : FlN w F) (hl : Lnk w F sb cb) (hN : F.N ≤ 384) (ha : a < F.N) (hb : b < F.N) :
    Calls Tryd.prog 74 #[.pointer (some ⟨F.fb, 0, none⟩), .int .i64 (a), .int .i64 (b)] w fun e w' => e = .returned (.bool (decide (a = b ∨ b ∈ F.adj a))) ∧ w' = w := by
  have HV := hid (valid_yes F a w h ha)
  have HA := hid (adjacent_any F sb cb a b w h hl hN ha hb)
  by_cases hab : a = b
  · rw [decide_eq_true (Or.inl hab)]
    have d1 : ((a : Int) == (b : Int)) = true := by simp; omega
    clear h hl hab
    go_enter Tryd.func74, Tryd.ntmps74
    go_wp2_with (go_at_call 50; refine HV.out.mono ?_; rintro e w' ⟨rfl, rfl⟩)
    go_ret
    exact ⟨rfl, rfl⟩
  · have e : decide (a = b ∨ b ∈ F.adj a) = decide (b ∈ F.adj a) := by rw [decide_eq_decide]; simp [hab]
    rw [e]
    have d1 : ((a : Int) == (b : Int)) = false := by simp; omega
    obtain ⟨x, hx⟩ : ∃ x, decide (b ∈ F.adj a) = x := ⟨_, rfl⟩
    rw [hx] at HA ⊢
    clear h hl hab e hx
    go_enter Tryd.func74, Tryd.ntmps74
    go_wp2_with (first | (go_at_call 50; refine HV.out.mono ?_; rintro e w' ⟨rfl, rfl⟩) | (go_at_call 14; refine HA.out.mono ?_; rintro e w' ⟨rfl, rfl⟩))
    go_ret
    exact ⟨rfl, rfl⟩

theorem dirTo_far (F : FP) (sb cb a b : Nat) (w : World) (h : FlN w F) (hl : Lnk w F sb cb) (hN : F.N ≤ 384) (ha : a < F.N) (hb : b < F.N) (hf : ¬ (a = b ∨ b ∈ F.adj a)) :
    Calls Tryd.prog 58 #[.pointer (some ⟨F.fb, 0, none⟩), .int .i64 (a), .int .i64 (b)] w fun e w' => e = .returned (.tuple #[.int .i64 (0), .bool false]) ∧ ∃ z, w' = w.ext z := by
  have HV := hid (reachable_any F sb cb a b w h hl hN ha hb)
  rw [decide_eq_false hf] at HV
  clear h hl hf
  go_enter Tryd.func58, Tryd.ntmps58
  go_wp2_with (go_at_call 74; refine HV.out.mono ?_; rintro e w' ⟨rfl, rfl⟩)
  go_ret2
  exact ⟨rfl, (Below.rf _).is_ext⟩

set_option maxRecDepth 20000 in
set_option maxHeartbeats 2000000 in
theorem dirTo_near (F : FP) (sb cb a b : Nat) (w : World) (h : FlN w F) (hl : Lnk w F sb cb) (hN : F.N ≤ 384) (ha : a < F.N) (hb : b < F.N) (hf : a = b ∨ b ∈ F.adj a) :
    Calls Tryd.prog 58 #[.pointer (some ⟨F.fb, 0, none⟩), .int .i64 (a), .int .i64 (b)] w fun e w' => e = .returned (.tuple #[.int .i64 (F.dir a b), .bool true]) ∧ ∃ z, w' = w.ext z := by
  have HV := hid (reachable_any F sb cb a b w h hl hN ha hb)
  rw [decide_eq_true hf] at HV
  have hp := h.pln
  have i11 := h.num.i11
  have hqc := h.num.qc
  have hql := h.num.lt.2.1
  have hfb := h.hdr.hfb
  have p0 := h.num.pos0 a ha
  have p1 := h.num.pos1 a ha
  have p2 := h.num.pos0 b hb
  have p3 := h.num.pos1 b hb
  rw [Nat.zero_add] at p0 p1 p2 p3
  rw [show plc (fun t => drv (F.kd t)) F.L a / F.W = F.row a from rfl] at p0
  rw [show plc (fun t => drv (F.kd t)) F.L a % F.W = F.col a from rfl] at p1
  rw [show plc (fun t => drv (F.kd t)) F.L b / F.W = F.row b from rfl] at p2
  rw [show plc (fun t => drv (F.kd t)) F.L b % F.W = F.col b from rfl] at p3
  have ra := (cell_on hp ha).1
  have rb := (cell_on hp hb).1
  have ca := (cell_on hp ha).2.1
  have cb' := (cell_on hp hb).2.1
  have hS := h.lay.hS
  have hWb := h.hWb
  unfold FP.dir
  generalize F.row a = r1 at *
  generalize F.col a = q1 at *
  generalize F.row b = r2 at *
  generalize F.col b = q2 at *
  clear h hl hf hp
  go_enter Tryd.func58, Tryd.ntmps58
  go_wp2_with (go_at_call 74; refine HV.out.mono ?_; rintro e w' ⟨rfl, rfl⟩)
  go_region_held3 (fun w' => w'.cell? ⟨F.fb, 11, none⟩ = some (.slice (some ⟨F.qb, 0, none⟩) F.N F.qc) ∧ w'.cell? ⟨F.qb, a * 2, none⟩ = some (.int .i64 (r1)) ∧ w'.cell? ⟨F.qb, a * 2 + 1, none⟩ = some (.int .i64 (q1)) ∧ w'.cell? ⟨F.qb, b * 2, none⟩ = some (.int .i64 (r2)) ∧ w'.cell? ⟨F.qb, b * 2 + 1, none⟩ = some (.int .i64 (q2))) (simp [go_sem, ↓IntWalk.iteOmega, *]) (fail)
  all_goals clear p0 p1 p2 p3 i11
  all_goals (rcases (by omega : (r2 < r1) ∨ (r1 < r2) ∨ (r1 ≤ r2 ∧ r2 ≤ r1 ∧ q2 < q1) ∨ (r1 ≤ r2 ∧ r2 ≤ r1 ∧ q1 < q2) ∨ (r1 ≤ r2 ∧ r2 ≤ r1 ∧ q1 ≤ q2 ∧ q2 ≤ q1)) with hc | hc | hc | hc | hc)
  all_goals (go_wp2; go_ret2; refine ⟨?_, ?_⟩)
  all_goals first
    | (refine Below.is_ext ?_; (repeat (first | with_reducible exact Below.rf _ | with_reducible exact World.below_ext _ _ | with_reducible refine Below.ex ?_ _ | with_reducible refine Below.al ?_ _ | with_reducible refine Below.setCell ?_ (by simp) _ | with_reducible refine Below.drew ?_)); done)
    | (rw [show dirOf r1 q1 r2 q2 = 1 by unfold dirOf; rw [if_pos (by omega)]]; rfl)
    | (rw [show dirOf r1 q1 r2 q2 = 4 by unfold dirOf; rw [if_neg (by omega), if_pos (by omega)]]; rfl)
    | (rw [show dirOf r1 q1 r2 q2 = 2 by unfold dirOf; rw [if_neg (by omega), if_neg (by omega), if_pos (by omega)]]; rfl)
    | (rw [show dirOf r1 q1 r2 q2 = 3 by unfold dirOf; rw [if_neg (by omega), if_neg (by omega), if_neg (by omega), if_pos (by omega)]]; rfl)
    | (rw [show dirOf r1 q1 r2 q2 = 0 by unfold dirOf; rw [if_neg (by omega), if_neg (by omega), if_neg (by omega), if_neg (by omega)]]; rfl)

theorem step_zero (F : FP) (a : Nat) (w : World) (h : FlN w F) (ha : a < F.N) :
    Calls Tryd.prog 59 #[.pointer (some ⟨F.fb, 0, none⟩), .int .i64 (a), .int .i64 (0)] w fun e w' => e = .returned (.tuple #[.int .i64 (a), .bool true]) ∧ ∃ z, w' = w.ext z := by
  have HV := hid (valid_yes F a w h ha)
  clear h
  go_enter Tryd.func59, Tryd.ntmps59
  go_wp2_with (go_at_call 50; refine HV.out.mono ?_; rintro e w' ⟨rfl, rfl⟩)
  go_ret2
  exact ⟨rfl, (Below.rf _).is_ext⟩

set_option maxRecDepth 20000 in
set_option maxHeartbeats 2000000 in
theorem step_adj (F : FP) (a b d : Nat) (w : World) (h : FlN w F) (ha : a < F.N) (hb : b ∈ F.adj a) (hd : F.dir a b = d) :
    Calls Tryd.prog 59 #[.pointer (some ⟨F.fb, 0, none⟩), .int .i64 (a), .int .i64 (d)] w fun e w' => e = .returned (.tuple #[.int .i64 (b), .bool true]) ∧ ∃ z, w' = w.ext z := by
  have HV := hid (valid_yes F a w h ha)
  have HH := hid h
  have hp := h.pln
  obtain ⟨hbN, hone, hnb⟩ := adj_co hp ha hb
  obtain ⟨hd1, hsh⟩ := dirOf_sh hone
  rw [show dirOf (F.row a) (F.col a) (F.row b) (F.col b) = d from hd] at hd1 hsh
  have hd4 : d ≤ 4 := by rw [← hd]; exact dirOf_le _ _ _ _
  have hda := cell_drv hp ha
  have hdb := cell_drv hp hbN
  obtain ⟨hixl, did⟩ := ids_cell h hdb
  have e1 := (cell_on hp hbN).2.2.1
  rw [e1] at did
  have hpas : F.pas ((F.row a : Nat) : Int) ((F.col a : Nat) : Int) ((F.row b : Nat) : Int) ((F.col b : Nat) : Int) = true := by
    unfold FP.pas
    rw [kAt_nat F hda.1 hda.2.1, kAt_nat F hdb.1 hdb.2.1, hda.2.2, hdb.2.2]
    have hnb2 : ¬ (F.kd (F.row a * F.W + F.col a) = 7 ∧ F.kd (F.row b * F.W + F.col b) = 7) := by
      rw [(cell_on hp ha).2.2.2.1, (cell_on hp hbN).2.2.2.1]; exact hnb
    simp; omega
  have i10 := h.num.i10
  have i11 := h.num.i11
  have hqc := h.num.qc
  have hql := h.num.lt.2.1
  have hil := h.num.lt.1
  have hfb := h.hdr.hfb
  have h7 := h.hdr.h7
  have hLb := h.hLb
  have p0 := h.num.pos0 a ha
  have p1 := h.num.pos1 a ha
  rw [Nat.zero_add] at p0 p1
  rw [show plc (fun t => drv (F.kd t)) F.L a / F.W = F.row a from rfl] at p0
  rw [show plc (fun t => drv (F.kd t)) F.L a % F.W = F.col a from rfl] at p1
  have ra := (cell_on hp ha).1
  have ca := (cell_on hp ha).2.1
  have hS := h.lay.hS
  have hWb := h.hWb
  have hNL : F.N ≤ 384 := by rw [h.num.hN]; exact Nat.le_trans (cnt_le _ _) h.hLb
  generalize F.row a = r1 at *
  generalize F.col a = q1 at *
  generalize F.row b = r2 at *
  generalize F.col b = q2 at *
  obtain ⟨ix, hix⟩ : ∃ ix, r2 * F.W + q2 = ix := ⟨_, rfl⟩
  rw [hix] at did hixl
  have HSH := hid (fun w' => shift_any r1 q1 d w' (by omega) (by omega))
  rw [hsh] at HSH
  have HPA := hid (fun w' (h' : FlN w' F) => passable_any F r1 q1 r2 q2 w' h')
  rw [hpas] at HPA
  have d0 : ((d : Int) == 0) = false := by simp; omega
  have HIX := hid hix
  clear h hd hp hone hnb hsh hda hdb e1 hpas hix hb
  go_enter Tryd.func59, Tryd.ntmps59
  go_wp2_with (first | (go_at_call 50; refine HV.out.mono ?_; rintro e w' ⟨rfl, rfl⟩) | (go_at_call 99; refine (HSH.out _).mono ?_; rintro e w' ⟨rfl, z1, rfl⟩) | (go_at_call 100; refine (HPA.out _ (HH.out.below (by (repeat (first | with_reducible exact Below.rf _ | with_reducible exact World.below_ext _ _ | with_reducible refine Below.ex ?_ _ | with_reducible refine Below.al ?_ _ | with_reducible refine Below.setCell ?_ (by simp) _ | with_reducible refine Below.drew ?_))))).mono ?_; rintro e w' ⟨rfl, z2, rfl⟩))
  first | with_reducible refine wp_region_ext2 (by kernel_rfl) (by kernel_rfl) ?_ | refine wp_region_ext (by kernel_rfl) (by kernel_rfl) ?_
  repeat (go_big_quiet_step ((go_at_call 64; exact Calls.ext_of (index_is F r2 q2 ix _ (by (first | omega | (simp only [World.size_ext, World.size_alloc, World.size_setCell, World.size_drew, Array.size_append]; done) | (simp only [World.size_ext, World.size_alloc, World.size_setCell, World.size_drew, Array.size_append]; omega))) (by simp [go_sem, ↓IntWalk.iteOmega]; exact h7) HIX.out (by omega)))))
  refine wpQuiet_nil ?_
  rintro _ ⟨z, rfl⟩
  go_wp2
  go_ret2
  refine ⟨rfl, ?_⟩
  refine Below.is_ext ?_
  repeat (first | with_reducible exact Below.rf _ | with_reducible exact World.below_ext _ _ | with_reducible refine Below.ex ?_ _ | with_reducible refine Below.al ?_ _ | with_reducible refine Below.setCell ?_ (by simp) _ | with_reducible refine Below.drew ?_)
end Go.Proofs.Qxb6500715aDoor
