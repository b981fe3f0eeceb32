/-
  note: the walk.
-/
import Derived.Test.Qxb6500716aPw
namespace Go.Proofs.Qxb6500716a
open Go.RowKit Go.Maps
set_option linter.unusedSimpArgs false
set_option linter.unusedVariables false
set_option maxRecDepth 20000
set_option maxHeartbeats 4000000

/-- The counts behind an answer. -/
def noteSt (st : Nat → Int) (c : Nat) (x : Int) (len : Nat) : Nat → Int := fun i =>
  if i = 0 then st 0 + 1 else if i = 1 + c then st i + 1 else if i = 9 then st 9 + x else if i = 10 then (if c = 0 then max (st 10) ((len : Int) - 1) else st 10) else st i
theorem wp_nm {P : Program} {code : Code} {Q : Exit → Act → World → Prop} {a : Act} {W : World} (h : ∀ w', w' = W → Code.wp P code Q a w') : Code.wp P code Q a W := h W rfl
def c5f (a b c d e : Value) : Nat → Value
  | 0 => a
  | 1 => b
  | 2 => c
  | 3 => d
  | _ => e
theorem note_cells (N : PM) (fb tb : Nat) (st : Nat → Int) (c : Nat) (x : Int) (len : Nat) (hc : c < 8) (i : Nat) (hi : i < 16) (v : Value) (hv : v = .int .i64 (noteSt st c x len 10)) : upd (upd (upd (upd (pcell N fb tb st) 5 (.int .i64 (st 0 + 1))) (6 + c) (.int .i64 (st (1 + c) + 1))) 14 (.int .i64 (st 9 + x))) 15 v i = pcell N fb tb (noteSt st c x len) i := by
  by_cases h5 : i < 5
  · rw [upd_ne _ _ (by omega), upd_ne _ _ (by omega), upd_ne _ _ (by omega), upd_ne _ _ (by omega)]
    match i, h5 with
    | 0, _ => rfl
    | 1, _ => rfl
    | 2, _ => rfl
    | 3, _ => rfl
    | 4, _ => rfl
  · obtain ⟨j, rfl⟩ : ∃ j, i = j + 5 := ⟨i - 5, by omega⟩
    show _ = Value.int .i64 (noteSt st c x len j)
    by_cases e1 : j = 10
    · subst e1; rw [upd_at, hv]
    · rw [upd_ne _ _ (by omega)]
      by_cases e2 : j = 9
      · subst e2
        rw [upd_at]
        unfold noteSt
        rw [if_neg (by omega), if_neg (by omega), if_pos rfl]
      · rw [upd_ne _ _ (by omega)]
        by_cases e3 : j = 1 + c
        · subst e3
          rw [show 1 + c + 5 = 6 + c by omega, upd_at]
          unfold noteSt
          rw [if_neg (by omega), if_pos rfl]
        · rw [upd_ne _ _ (by omega)]
          by_cases e4 : j = 0
          · subst e4
            rw [upd_at]
            unfold noteSt
            rw [if_pos rfl]
          · rw [upd_ne _ _ (by omega)]
            unfold noteSt
            rw [if_neg e4, if_neg e3, if_neg e2, if_neg e1]
            rfl
theorem note_fin {w w5 : World} {lab : Nat → Nat} {N : PM} {fb tb n : Nat} {S : PS} {st' : Nat → Int} {f : Nat → Value} (h : PAt w lab N fb tb S n) (hb : Blk w5 N.p 16 f) (hf : ∀ i, i < 16 → f i = pcell N fb tb st' i) (hk : KeptL lab (fun y => y = 5) w w5) : PAt w5 lab N fb tb { S with st := st' } n :=
  ⟨hb.congr hf, h.bh.keptL hk (by omega), h.bn.keptL hk (by omega), h.bk.keptL hk (by omega) (by omega), h.lp⟩
theorem upd_self {α : Type} (f : Nat → α) (i : Nat) : upd f i (f i) = f := by funext j; unfold upd; split; rename_i h; rw [h]; rfl
theorem note_any (N : PM) (S : PS) (n fb tb : Nat) (lab : Nat → Nat) (c : Nat) (t x : Int) (ao : Option Addr) (len cap : Nat) (bo : Option Addr) (bn bcap : Nat) (w : World) (hP : PAt w lab N fb tb S n) (hc : c < 8) (hst : ∀ i, i < 11 → -1000000000000 ≤ S.st i ∧ S.st i ≤ 1000000000000) (hx : -10000000 ≤ x ∧ x ≤ 10000000) (hlen : len ≤ 1000000) :
    Calls Try.prog 64 #[.pointer (some ⟨N.p, 0, none⟩), .agg #[.int .u8 (c), .int .i64 (t), .slice ao len cap, .slice bo bn bcap, .int .i64 (x)]] w fun e w' => e = .returned (.agg #[.int .u8 (c), .int .i64 (t), .slice ao len cap, .slice bo bn bcap, .int .i64 (x)]) ∧ PAt w' lab N fb tb { S with st := noteSt S.st c x len } n ∧ KeptL lab (fun y => y = 5) w w' := by
  have HP := hid hP
  have c5 : w.cell? ⟨N.p, 5, none⟩ = some (.int .i64 (S.st 0)) := hP.bp.is 5 (by omega)
  have z5 := hP.bp.fz 5 (by omega)
  have hpl := hP.bp.lt
  have h0 := hst 0 (by omega)
  have HST := hid hst
  clear hP hst
  go_enter Try.func64, Try.ntmps64
  go_wp2
  refine wp_nm fun w1 hw1 => ?_
  have B1 : Hid (Blk w1 N.p 16 (upd (pcell N fb tb S.st) 5 (.int .i64 (S.st 0 + 1)))) := by
    show Blk w1 _ _ _
    rw [hw1]
    exact ((HP.out.bp.set 5 (.int .i64 (S.st 0 + 1)) (by omega)).below ((Below.rf _).al _)).below ((Below.rf _).al _)
  have Q1 : Hid (Blk w1 w.heap.size 5 (c5f (.int .u8 c) (.int .i64 (t)) (.slice ao len cap) (.slice bo bn bcap) (.int .i64 (x)))) := by
    show Blk w1 _ _ _
    rw [hw1]
    refine ⟨by (simp <;> omega), fun i hi => ?_, fun i hi => by simp [go_sem, ↓IntWalk.iteOmega]⟩
    rcases (by omega : i = 0 ∨ i = 1 ∨ i = 2 ∨ i = 3 ∨ i = 4) with rfl | rfl | rfl | rfl | rfl <;> simp [go_sem, ↓IntWalk.iteOmega, c5f]
  have R1 : Hid (Blk w1 (w.heap.size + 1) 5 (c5f (.int .u8 0) (.int .i64 (0)) (.slice none 0 0) (.slice none 0 0) (.int .i64 (0)))) := by
    show Blk w1 _ _ _
    rw [hw1]
    refine ⟨by (simp <;> omega), fun i hi => ?_, fun i hi => by simp [go_sem, ↓IntWalk.iteOmega]⟩
    rcases (by omega : i = 0 ∨ i = 1 ∨ i = 2 ∨ i = 3 ∨ i = 4) with rfl | rfl | rfl | rfl | rfl <;> simp [go_sem, ↓IntWalk.iteOmega, c5f]
  have K1 : Hid (KeptL lab (fun y => y = 5) w w1) := by
    show KeptL lab _ w w1
    rw [hw1]
    exact (((KeptL.refl _ _ _).set HP.out.lp _).al _).al _
  clear hw1 c5 z5
  have c6 : w1.cell? ⟨N.p, 6 + c, none⟩ = some (.int .i64 (S.st (1 + c))) := by
    rw [B1.out.is (6 + c) (by omega), upd_ne _ _ (by omega), show 6 + c = (1 + c) + 5 by omega]; rfl
  have z6 := B1.out.fz (6 + c) (by omega)
  have q0 : w1.cell? ⟨w.heap.size, 0, none⟩ = some (.int .u8 c) := Q1.out.is 0 (by omega)
  have l1 := B1.out.lt
  have l2 := Q1.out.lt
  have h1 := HST.out (1 + c) (by omega)
  first | with_reducible refine wp_region_tail_ext2 12 (by kernel_rfl) (by kernel_rfl) ?_ | refine wp_region_tail_ext 12 (by kernel_rfl) (by kernel_rfl) ?_
  simp only [List.take_succ_cons, List.take_zero, List.drop_succ_cons, List.drop_zero]
  repeat (go_big_quiet_step (fail))
  refine wpQuiet_nil ?_
  rintro _ ⟨z, rfl⟩
  go_wp2
  refine wp_nm fun w2 hw2 => ?_
  have B2 := hid (show Blk w2 N.p 16 _ from by rw [hw2]; exact (B1.out.set (6 + c) (.int .i64 (S.st (1 + c) + 1)) (by omega)).below (World.below_ext _ _))
  have Q2 := hid (show Blk w2 w.heap.size 5 _ from by rw [hw2]; exact (Q1.out.kept ((KeptBut.refl N.p w1).set (Or.inl rfl) _) (by omega)).below (World.below_ext _ _))
  have R2 := hid (show Blk w2 (w.heap.size + 1) 5 _ from by rw [hw2]; exact (R1.out.kept ((KeptBut.refl N.p w1).set (Or.inl rfl) _) (by omega)).below (World.below_ext _ _))
  have K2 := hid (show KeptL lab (fun y => y = 5) w w2 from by rw [hw2]; exact (K1.out.set HP.out.lp _).ex _)
  clear hw2 c6 z6 q0 l1 l2 B1 Q1 R1 K1
  have c14 : w2.cell? ⟨N.p, 14, none⟩ = some (.int .i64 (S.st 9)) := by
    rw [B2.out.is 14 (by omega), upd_ne _ _ (by omega), upd_ne _ _ (by omega)]; rfl
  have z14 := B2.out.fz 14 (by omega)
  have q4 : w2.cell? ⟨w.heap.size, 4, none⟩ = some (.int .i64 (x)) := Q2.out.is 4 (by omega)
  have l1 := B2.out.lt
  have l2 := Q2.out.lt
  have h9 := HST.out 9 (by omega)
  have q0 : w2.cell? ⟨w.heap.size, 0, none⟩ = some (.int .u8 c) := Q2.out.is 0 (by omega)
  have q1 : w2.cell? ⟨w.heap.size, 1, none⟩ = some (.int .i64 (t)) := Q2.out.is 1 (by omega)
  have q2 : w2.cell? ⟨w.heap.size, 2, none⟩ = some (.slice ao len cap) := Q2.out.is 2 (by omega)
  have q3 : w2.cell? ⟨w.heap.size, 3, none⟩ = some (.slice bo bn bcap) := Q2.out.is 3 (by omega)
  have r0 : w2.cell? ⟨w.heap.size + 1, 0, none⟩ = some (.int .u8 0) := R2.out.is 0 (by omega)
  have r1 : w2.cell? ⟨w.heap.size + 1, 1, none⟩ = some (.int .i64 (0)) := R2.out.is 1 (by omega)
  have r2 : w2.cell? ⟨w.heap.size + 1, 2, none⟩ = some (.slice none 0 0) := R2.out.is 2 (by omega)
  have r3 : w2.cell? ⟨w.heap.size + 1, 3, none⟩ = some (.slice none 0 0) := R2.out.is 3 (by omega)
  have r4 : w2.cell? ⟨w.heap.size + 1, 4, none⟩ = some (.int .i64 (0)) := R2.out.is 4 (by omega)
  have y0 := R2.out.fz 0 (by omega)
  have y1 := R2.out.fz 1 (by omega)
  have y2 := R2.out.fz 2 (by omega)
  have y3 := R2.out.fz 3 (by omega)
  have y4 := R2.out.fz 4 (by omega)
  have l3 := R2.out.lt
  first | with_reducible refine wp_region_tail_ext2 8 (by kernel_rfl) (by kernel_rfl) ?_ | refine wp_region_tail_ext 8 (by kernel_rfl) (by kernel_rfl) ?_
  simp only [List.take_succ_cons, List.take_zero, List.drop_succ_cons, List.drop_zero]
  repeat (go_big_quiet_step (fail))
  refine wpQuiet_nil ?_
  rintro _ ⟨z, rfl⟩
  by_cases h0c : c = 0
  · subst h0c
    have dc : (((0 : Nat) : Int) == 0) = true := rfl
    have c15 : w2.cell? ⟨N.p, 15, none⟩ = some (.int .i64 (S.st 10)) := by
      rw [B2.out.is 15 (by omega), upd_ne _ _ (by omega), upd_ne _ _ (by omega)]; rfl
    have z15 := B2.out.fz 15 (by omega)
    have h10 := HST.out 10 (by omega)
    have hmax := fun (w : World) (ty : TypeId) => run_max w (S.st 10) ((len : Int) - 1) (max (S.st 10) ((len : Int) - 1)) rfl ty
    go_wp2
    refine wp_nm fun w3 hw3 => ?_
    have B3 := hid (show Blk w3 N.p 16 _ from by rw [hw3]; exact (B2.out.set (14) (.int .i64 (S.st 9 + x)) (by omega)).below (World.below_ext _ _))
    have Q3 := hid (show Blk w3 w.heap.size 5 _ from by rw [hw3]; exact (Q2.out.kept ((KeptBut.refl N.p w2).set (Or.inl rfl) _) (by omega)).below (World.below_ext _ _))
    have R3 := hid (show Blk w3 (w.heap.size + 1) 5 _ from by rw [hw3]; exact (R2.out.kept ((KeptBut.refl N.p w2).set (Or.inl rfl) _) (by omega)).below (World.below_ext _ _))
    have K3 := hid (show KeptL lab (fun y => y = 5) w w3 from by rw [hw3]; exact (K2.out.set HP.out.lp _).ex _)
    clear hw3 c14 z14 q4 q0 q1 q2 q3 r0 r1 r2 r3 r4 y0 y1 y2 y3 y4 l1 l2 l3 c15 z15
    have c15 : w3.cell? ⟨N.p, 15, none⟩ = some (.int .i64 (S.st 10)) := by
      rw [B3.out.is 15 (by omega), upd_ne _ _ (by omega), upd_ne _ _ (by omega), upd_ne _ _ (by omega)]; rfl
    have z15 := B3.out.fz 15 (by omega)
    have q0 : w3.cell? ⟨w.heap.size, 0, none⟩ = some (.int .u8 ((0 : Nat) : Int)) := Q3.out.is 0 (by omega)
    have q1 : w3.cell? ⟨w.heap.size, 1, none⟩ = some (.int .i64 (t)) := Q3.out.is 1 (by omega)
    have q2 : w3.cell? ⟨w.heap.size, 2, none⟩ = some (.slice ao len cap) := Q3.out.is 2 (by omega)
    have q3 : w3.cell? ⟨w.heap.size, 3, none⟩ = some (.slice bo bn bcap) := Q3.out.is 3 (by omega)
    have q4 : w3.cell? ⟨w.heap.size, 4, none⟩ = some (.int .i64 (x)) := Q3.out.is 4 (by omega)
    have r0 : w3.cell? ⟨w.heap.size + 1, 0, none⟩ = some (.int .u8 0) := R3.out.is 0 (by omega)
    have r1 : w3.cell? ⟨w.heap.size + 1, 1, none⟩ = some (.int .i64 (0)) := R3.out.is 1 (by omega)
    have r2 : w3.cell? ⟨w.heap.size + 1, 2, none⟩ = some (.slice none 0 0) := R3.out.is 2 (by omega)
    have r3 : w3.cell? ⟨w.heap.size + 1, 3, none⟩ = some (.slice none 0 0) := R3.out.is 3 (by omega)
    have r4 : w3.cell? ⟨w.heap.size + 1, 4, none⟩ = some (.int .i64 (0)) := R3.out.is 4 (by omega)
    have y0 := R3.out.fz 0 (by omega)
    have y1 := R3.out.fz 1 (by omega)
    have y2 := R3.out.fz 2 (by omega)
    have y3 := R3.out.fz 3 (by omega)
    have y4 := R3.out.fz 4 (by omega)
    have l1 := B3.out.lt
    have l2 := Q3.out.lt
    have l3 := R3.out.lt
    obtain ⟨mx, hmx⟩ : ∃ y, max (S.st 10) ((len : Int) - 1) = y := ⟨_, rfl⟩
    rw [hmx] at hmax
    have HMX := hid hmx
    clear hmx
    first | with_reducible refine wp_region_tail_ext2 11 (by kernel_rfl) (by kernel_rfl) ?_ | refine wp_region_tail_ext 11 (by kernel_rfl) (by kernel_rfl) ?_
    simp only [List.take_succ_cons, List.take_zero, List.drop_succ_cons, List.drop_zero]
    repeat (go_big_quiet_step (fail))
    refine wpQuiet_nil ?_
    rintro _ ⟨z, rfl⟩
    go_wp2
    refine bodyPost_ret (v := .agg #[.int .u8 ((0 : Nat)), .int .i64 (t), .slice ao len cap, .slice bo bn bcap, .int .i64 (x)]) (by simp [results, Try.results64, go_sem, ↓IntWalk.iteOmega, r0, r1, r2, r3, r4]) rfl ?_
    have kr : KeptBut (w.heap.size + 1) (w3.setCell ⟨N.p, 15, none⟩ (.int .i64 (mx))) ((((((w3.setCell ⟨N.p, 15, none⟩ (.int .i64 (mx))).setCell ⟨w.heap.size + 1, 0, none⟩ (.int .u8 0)).setCell ⟨w.heap.size + 1, 1, none⟩ (.int .i64 (t))).setCell ⟨w.heap.size + 1, 2, none⟩ (.slice ao len cap)).setCell ⟨w.heap.size + 1, 3, none⟩ (.slice bo bn bcap)).setCell ⟨w.heap.size + 1, 4, none⟩ (.int .i64 (x))) := by
      refine KeptBut.set ?_ (Or.inl (by rfl)) _
      refine KeptBut.set ?_ (Or.inl (by rfl)) _
      refine KeptBut.set ?_ (Or.inl (by rfl)) _
      refine KeptBut.set ?_ (Or.inl (by rfl)) _
      refine KeptBut.set ?_ (Or.inl (by rfl)) _
      exact KeptBut.refl _ _
    have kk : KeptL lab (fun y => y = 5) w ((((((w3.setCell ⟨N.p, 15, none⟩ (.int .i64 (mx))).setCell ⟨w.heap.size + 1, 0, none⟩ (.int .u8 0)).setCell ⟨w.heap.size + 1, 1, none⟩ (.int .i64 (t))).setCell ⟨w.heap.size + 1, 2, none⟩ (.slice ao len cap)).setCell ⟨w.heap.size + 1, 3, none⟩ (.slice bo bn bcap)).setCell ⟨w.heap.size + 1, 4, none⟩ (.int .i64 (x))) := by
      refine KeptL.setN ?_ (by omega) _
      refine KeptL.setN ?_ (by omega) _
      refine KeptL.setN ?_ (by omega) _
      refine KeptL.setN ?_ (by omega) _
      refine KeptL.setN ?_ (by omega) _
      exact K3.out.set HP.out.lp _
    have hb5 := ((B3.out.set 15 (.int .i64 (mx)) (by omega)).kept kr (by omega)).below (World.below_ext _ z)
    refine ⟨rfl, note_fin HP.out hb5 (fun i hi => ?_) (kk.ex z), kk.ex z⟩
    refine note_cells N fb tb S.st 0 x len (by omega) i hi _ ?_
    unfold noteSt
    rw [if_neg (by omega), if_neg (by omega), if_neg (by omega), if_pos rfl, if_pos rfl, HMX.out]
  · have dc : ((c : Int) == 0) = false := by simp; omega
    go_wp2
    refine bodyPost_ret (v := .agg #[.int .u8 (c), .int .i64 (t), .slice ao len cap, .slice bo bn bcap, .int .i64 (x)]) (by simp [results, Try.results64, go_sem, ↓IntWalk.iteOmega, r0, r1, r2, r3, r4]) rfl ?_
    have kr : KeptBut (w.heap.size + 1) (w2.setCell ⟨N.p, 14, none⟩ (.int .i64 (S.st 9 + x))) ((((((w2.setCell ⟨N.p, 14, none⟩ (.int .i64 (S.st 9 + x))).setCell ⟨w.heap.size + 1, 0, none⟩ (.int .u8 c)).setCell ⟨w.heap.size + 1, 1, none⟩ (.int .i64 (t))).setCell ⟨w.heap.size + 1, 2, none⟩ (.slice ao len cap)).setCell ⟨w.heap.size + 1, 3, none⟩ (.slice bo bn bcap)).setCell ⟨w.heap.size + 1, 4, none⟩ (.int .i64 (x))) := by
      refine KeptBut.set ?_ (Or.inl (by rfl)) _
      refine KeptBut.set ?_ (Or.inl (by rfl)) _
      refine KeptBut.set ?_ (Or.inl (by rfl)) _
      refine KeptBut.set ?_ (Or.inl (by rfl)) _
      refine KeptBut.set ?_ (Or.inl (by rfl)) _
      exact KeptBut.refl _ _
    have kk : KeptL lab (fun y => y = 5) w ((((((w2.setCell ⟨N.p, 14, none⟩ (.int .i64 (S.st 9 + x))).setCell ⟨w.heap.size + 1, 0, none⟩ (.int .u8 c)).setCell ⟨w.heap.size + 1, 1, none⟩ (.int .i64 (t))).setCell ⟨w.heap.size + 1, 2, none⟩ (.slice ao len cap)).setCell ⟨w.heap.size + 1, 3, none⟩ (.slice bo bn bcap)).setCell ⟨w.heap.size + 1, 4, none⟩ (.int .i64 (x))) := by
      refine KeptL.setN ?_ (by omega) _
      refine KeptL.setN ?_ (by omega) _
      refine KeptL.setN ?_ (by omega) _
      refine KeptL.setN ?_ (by omega) _
      refine KeptL.setN ?_ (by omega) _
      exact K2.out.set HP.out.lp _
    have hb5 := ((B2.out.set 14 (.int .i64 (S.st 9 + x)) (by omega)).kept kr (by omega)).below (World.below_ext _ z)
    refine ⟨rfl, note_fin HP.out hb5 (fun i hi => ?_) (kk.ex z), kk.ex z⟩
    have h15 : upd (upd (upd (pcell N fb tb S.st) 5 (.int .i64 (S.st 0 + 1))) (6 + c) (.int .i64 (S.st (1 + c) + 1))) 14 (.int .i64 (S.st 9 + x)) 15 = .int .i64 (noteSt S.st c x len 10) := by
      rw [upd_ne _ _ (by omega), upd_ne _ _ (by omega), upd_ne _ _ (by omega)]
      unfold noteSt
      rw [if_neg (by omega), if_neg (by omega), if_neg (by omega), if_pos rfl, if_neg h0c]
      rfl
    have := note_cells N fb tb S.st c x len hc i hi _ h15
    rw [upd_self] at this
    exact this
end Go.Proofs.Qxb6500716a
