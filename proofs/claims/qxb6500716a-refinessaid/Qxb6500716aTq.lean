/-
  The table in memory, and its small questions.
-/
import Derived.Test.Qxb6500716aTb
namespace Go.Proofs.Qxb6500716a
open Go.RowKit Go.Maps
set_option linter.unusedSimpArgs false
set_option linter.unusedVariables false
set_option maxRecDepth 20000
set_option maxHeartbeats 4000000

/-- A span: robot, cell, first tick, first tick behind. -/
structure Sg where
  r : Nat
  c : Nat
  f : Nat
  u : Nat
def srow (l : List Sg) : List Value := l.flatMap fun x => [.int .i64 (x.r), .int .i64 (x.c), .int .i64 (x.f), .int .i64 (x.u)]
theorem srow_len (l : List Sg) : (srow l).length = l.length * 4 := by
  induction l with
  | nil => rfl
  | cons x l ih => simp [srow] at ih ⊢; omega
theorem srow_app (l m : List Sg) : srow (l ++ m) = srow l ++ srow m := by simp [srow]
theorem srow_at (l : List Sg) (k : Nat) (x : Sg) (h : l[k]? = some x) : (srow l)[k * 4]? = some (.int .i64 (x.r)) ∧ (srow l)[k * 4 + 1]? = some (.int .i64 (x.c)) ∧ (srow l)[k * 4 + 2]? = some (.int .i64 (x.f)) ∧ (srow l)[k * 4 + 3]? = some (.int .i64 (x.u)) := by
  induction l generalizing k with
  | nil => simp at h
  | cons y l ih =>
    cases k with
    | zero => simp at h; subst h; exact ⟨rfl, rfl, rfl, rfl⟩
    | succ k =>
      have := ih k (by simpa using h)
      rw [show (k + 1) * 4 = k * 4 + 4 by omega, show k * 4 + 4 + 1 = k * 4 + 1 + 4 by omega, show k * 4 + 4 + 2 = k * 4 + 2 + 4 by omega, show k * 4 + 4 + 3 = k * 4 + 3 + 4 by omega]
      exact this

/-- The table, plain: tm by robot and tick. -/
structure TS where
  nc : Nat
  nr : Nat
  cap : Nat
  base : Nat
  tm : Int → Int → Option Int
  sp : List Sg
/-- Where it lies. -/
structure TM where
  t : Nat
  m : Nat
  sv : Value
def tcell (M : TM) (T : TS) : Nat → Value
  | 0 => .int .i64 (T.nc)
  | 1 => .int .i64 (T.nr)
  | 2 => .int .i64 (T.cap)
  | 3 => .int .i64 (T.base)
  | 4 => .map (some M.m)
  | _ => M.sv
def TS.held (T : TS) : Nat := cntM T.tm + T.sp.length
structure TBd (T : TS) : Prop where
  nc : 1 ≤ T.nc ∧ T.nc ≤ 999
  nr : 1 ≤ T.nr ∧ T.nr ≤ 6
  cap : T.cap ≤ 1536
  base : T.base ≤ 1073741824
  sp : ∀ x, x ∈ T.sp → x.r < 6 ∧ x.c < T.nc ∧ x.f ≤ 2000000000 ∧ x.u ≤ 1099511627776
  held : T.held ≤ 2000
/-- The table in memory: label 2 the struct, 3 the map, 4 the spans. -/
structure TAt (w : World) (lab : Nat → Nat) (M : TM) (T : TS) : Prop where
  bd : TBd T
  bt : Blk w M.t 6 (tcell M T)
  bm : MAt w M.m T.tm
  bs : LAt w lab 4 4 M.sv T.sp.length (srow T.sp)
  lt : lab M.t = 2
  lm : lab M.m = 3

section
variable {w w' : World} {lab : Nat → Nat} {M : TM} {T : TS} {A : Nat → Prop}
theorem TAt.below (h : TAt w lab M T) (hb : Below w.heap.size w w') : TAt w' lab M T := { h with bt := h.bt.below hb, bm := h.bm.below hb, bs := h.bs.below hb }
theorem TAt.ex (h : TAt w lab M T) (z : World) : TAt (w.ext z) lab M T := h.below (World.below_ext w z)
theorem TAt.keptL (h : TAt w lab M T) (hk : KeptL lab A w w') (h2 : ¬ A 2) (h3 : ¬ A 3) (h4 : ¬ A 4) : TAt w' lab M T :=
  { h with bt := h.bt.keptL hk (by rw [h.lt]; exact h2), bm := h.bm.keptL hk (by rw [h.lm]; exact h3), bs := h.bs.keptL hk h4 }
theorem TAt.relab {lab' : Nat → Nat} (h : TAt w lab M T) (hl : ∀ b, b < w.heap.size → lab' b = lab b) : TAt w lab' M T :=
  { h with bs := h.bs.relab hl, lt := (hl _ h.bt.lt).trans h.lt, lm := (hl _ h.bm.lt).trans h.lm }
theorem TAt.c0 (h : TAt w lab M T) : w.cell? ⟨M.t, 0, none⟩ = some (.int .i64 (T.nc)) := h.bt.is 0 (by omega)
theorem TAt.c1 (h : TAt w lab M T) : w.cell? ⟨M.t, 1, none⟩ = some (.int .i64 (T.nr)) := h.bt.is 1 (by omega)
theorem TAt.c2 (h : TAt w lab M T) : w.cell? ⟨M.t, 2, none⟩ = some (.int .i64 (T.cap)) := h.bt.is 2 (by omega)
theorem TAt.c3 (h : TAt w lab M T) : w.cell? ⟨M.t, 3, none⟩ = some (.int .i64 (T.base)) := h.bt.is 3 (by omega)
theorem TAt.c4 (h : TAt w lab M T) : w.cell? ⟨M.t, 4, none⟩ = some (.map (some M.m)) := h.bt.is 4 (by omega)
theorem TAt.c5 (h : TAt w lab M T) : w.cell? ⟨M.t, 5, none⟩ = some M.sv := h.bt.is 5 (by omega)
theorem TAt.ln (h : TAt w lab M T) : T.sp.length ≤ 2000 := by have := h.bd.held; unfold TS.held at this; omega
theorem TAt.cn (h : TAt w lab M T) : cntM T.tm ≤ 2000 := by have := h.bd.held; unfold TS.held at this; omega
/-- One span's cells. -/
theorem TAt.span (h : TAt w lab M T) (k : Nat) (x : Sg) (hx : T.sp[k]? = some x) :
    ∃ b cap, M.sv = .slice (some ⟨b, 0, none⟩) T.sp.length cap ∧ T.sp.length ≤ cap ∧ b < w.heap.size ∧ w.cell? ⟨b, k * 4, none⟩ = some (.int .i64 (x.r)) ∧ w.cell? ⟨b, k * 4 + 1, none⟩ = some (.int .i64 (x.c)) ∧ w.cell? ⟨b, k * 4 + 2, none⟩ = some (.int .i64 (x.f)) ∧ w.cell? ⟨b, k * 4 + 3, none⟩ = some (.int .i64 (x.u)) := by
  have hk := (List.getElem?_eq_some_iff.1 hx).1
  obtain ⟨b, cap, h1, h2, h3, -, h4⟩ := h.bs.see (by omega)
  obtain ⟨e1, e2, e3, e4⟩ := srow_at T.sp k x hx
  exact ⟨b, cap, h1, h2, h3, h4 _ _ e1, h4 _ _ e2, h4 _ _ e3, h4 _ _ e4⟩
end

/-! the small questions -/
theorem base_any (M : TM) (T : TS) (lab : Nat → Nat) (w : World) (h : TAt w lab M T) : Calls Try.prog 44 #[.pointer (some ⟨M.t, 0, none⟩)] w fun e w' => e = .returned (.int .i64 (T.base)) ∧ w' = w := by
  have c3 := h.c3
  have hlt := h.bt.lt
  clear h
  go_enter Try.func44, Try.ntmps44
  go_wp2
  go_ret
  exact ⟨rfl, rfl⟩
theorem end_any (M : TM) (T : TS) (lab : Nat → Nat) (w : World) (h : TAt w lab M T) : Calls Try.prog 25 #[.pointer (some ⟨M.t, 0, none⟩)] w fun e w' => e = .returned (.int .i64 (T.base + 256)) ∧ w' = w := by
  have c3 := h.c3
  have hlt := h.bt.lt
  have hb := h.bd.base
  clear h
  go_enter Try.func25, Try.ntmps25
  go_wp2
  go_ret
  exact ⟨rfl, rfl⟩
theorem capacity_any (M : TM) (T : TS) (lab : Nat → Nat) (w : World) (h : TAt w lab M T) : Calls Try.prog 79 #[.pointer (some ⟨M.t, 0, none⟩)] w fun e w' => e = .returned (.int .i64 (T.cap)) ∧ w' = w := by
  have c2 := h.c2
  have hlt := h.bt.lt
  clear h
  go_enter Try.func79, Try.ntmps79
  go_wp2
  go_ret
  exact ⟨rfl, rfl⟩
theorem isRobot_any (M : TM) (T : TS) (lab : Nat → Nat) (r : Int) (w : World) (h : TAt w lab M T) : Calls Try.prog 78 #[.pointer (some ⟨M.t, 0, none⟩), .int .i64 (r)] w fun e w' => e = .returned (.bool (decide (0 ≤ r) && decide (r < (T.nr : Int)))) ∧ w' = w := by
  have c1 := h.c1
  have hlt := h.bt.lt
  clear h
  go_enter Try.func78, Try.ntmps78
  go_wp2
  (all_goals (go_ret; refine ⟨ret_bool ?_, rfl⟩; (first | (simp; done) | (simp; omega) | (simp [*]; done) | (simp [*]; omega))))
theorem isCell_any (M : TM) (T : TS) (lab : Nat → Nat) (c : Int) (w : World) (h : TAt w lab M T) : Calls Try.prog 80 #[.pointer (some ⟨M.t, 0, none⟩), .int .i64 (c)] w fun e w' => e = .returned (.bool (decide (0 ≤ c) && decide (c < (T.nc : Int)))) ∧ w' = w := by
  have c0 := h.c0
  have hlt := h.bt.lt
  clear h
  go_enter Try.func80, Try.ntmps80
  go_wp2
  (all_goals (go_ret; refine ⟨ret_bool ?_, rfl⟩; (first | (simp; done) | (simp; omega) | (simp [*]; done) | (simp [*]; omega))))
theorem askable_any (M : TM) (T : TS) (lab : Nat → Nat) (t : Int) (w : World) (h : TAt w lab M T) : Calls Try.prog 81 #[.pointer (some ⟨M.t, 0, none⟩), .int .i64 (t)] w fun e w' => e = .returned (.bool (decide ((T.base : Int) ≤ t) && decide (t < 1099511627776))) ∧ w' = w := by
  have c3 := h.c3
  have hlt := h.bt.lt
  clear h
  go_enter Try.func81, Try.ntmps81
  go_wp2
  (all_goals (go_ret; refine ⟨ret_bool ?_, rfl⟩; (first | (simp; done) | (simp; omega) | (simp [*]; done) | (simp [*]; omega))))
theorem held_any (M : TM) (T : TS) (lab : Nat → Nat) (w : World) (h : TAt w lab M T) : Calls Try.prog 76 #[.pointer (some ⟨M.t, 0, none⟩)] w fun e w' => e = .returned (.int .i64 (T.held)) ∧ ∃ z, w' = w.ext z := by
  have c4 := h.c4
  have c5 := h.c5
  have hlt := h.bt.lt
  obtain ⟨ao, cap, hv⟩ := h.bs.val
  rw [hv] at c5
  have hn := h.ln
  have hm := h.cn
  have e1 := fun (z : World) (ty : TypeId) => (h.bm.below (World.below_ext w z)).len ty
  unfold TS.held
  clear h
  generalize cntM T.tm = x at *
  generalize T.sp.length = y at *
  go_enter Try.func76, Try.ntmps76
  go_wp2
  first | with_reducible refine wp_region_ext2 (by kernel_rfl) (by kernel_rfl) ?_ | refine wp_region_ext (by kernel_rfl) (by kernel_rfl) ?_
  repeat (go_big_quiet_step (fail))
  refine wpQuiet_nil ?_
  rintro _ ⟨z, rfl⟩
  go_wp2
  go_ret
  exact ⟨by simp, _, rfl⟩
/-- What 'place' answers. -/
def TS.place (T : TS) (r c t : Int) : Int :=
  if (decide (0 ≤ r) && decide (r < (T.nr : Int))) = false ∨ (decide (0 ≤ c) && decide (c < (T.nc : Int))) = false then 1 else if t < T.base then 2 else if (T.base : Int) + 256 ≤ t then 3 else 0
theorem place_any (M : TM) (T : TS) (lab : Nat → Nat) (r c t : Int) (w : World) (h : TAt w lab M T) : Calls Try.prog 74 #[.pointer (some ⟨M.t, 0, none⟩), .int .i64 (r), .int .i64 (c), .int .i64 (t)] w fun e w' => e = .returned (.int .i64 (T.place r c t)) ∧ w' = w := by
  have c3 := h.c3
  have hb := h.bd.base
  have hlt := h.bt.lt
  have VR := hid (isRobot_any M T lab r w h)
  have VC := hid (isCell_any M T lab c w h)
  have VE := hid (end_any M T lab w h)
  unfold TS.place
  generalize (decide (0 ≤ r) && decide (r < (T.nr : Int))) = x at *
  generalize (decide (0 ≤ c) && decide (c < (T.nc : Int))) = y at *
  clear h
  cases x with
  | false =>
    rw [if_pos (Or.inl rfl)]
    go_enter Try.func74, Try.ntmps74
    go_wp2_with (first | (go_at_call 78; refine VR.out.mono ?_; rintro e w' ⟨rfl, rfl⟩) | (go_at_call 80; refine VC.out.mono ?_; rintro e w' ⟨rfl, rfl⟩) | (go_at_call 25; refine VE.out.mono ?_; rintro e w' ⟨rfl, rfl⟩))
    go_ret
    exact ⟨rfl, rfl⟩
  | true =>
    cases y with
    | false =>
      rw [if_pos (Or.inr rfl)]
      go_enter Try.func74, Try.ntmps74
      go_wp2_with (first | (go_at_call 78; refine VR.out.mono ?_; rintro e w' ⟨rfl, rfl⟩) | (go_at_call 80; refine VC.out.mono ?_; rintro e w' ⟨rfl, rfl⟩) | (go_at_call 25; refine VE.out.mono ?_; rintro e w' ⟨rfl, rfl⟩))
      go_ret
      exact ⟨rfl, rfl⟩
    | true =>
      rw [if_neg (by simp)]
      by_cases h1 : t < (T.base : Int)
      · rw [if_pos h1]
        go_enter Try.func74, Try.ntmps74
        go_wp2_with (first | (go_at_call 78; refine VR.out.mono ?_; rintro e w' ⟨rfl, rfl⟩) | (go_at_call 80; refine VC.out.mono ?_; rintro e w' ⟨rfl, rfl⟩) | (go_at_call 25; refine VE.out.mono ?_; rintro e w' ⟨rfl, rfl⟩))
        go_ret
        exact ⟨rfl, rfl⟩
      · rw [if_neg h1]
        by_cases h2 : (T.base : Int) + 256 ≤ t
        · rw [if_pos h2]
          go_enter Try.func74, Try.ntmps74
          go_wp2_with (first | (go_at_call 78; refine VR.out.mono ?_; rintro e w' ⟨rfl, rfl⟩) | (go_at_call 80; refine VC.out.mono ?_; rintro e w' ⟨rfl, rfl⟩) | (go_at_call 25; refine VE.out.mono ?_; rintro e w' ⟨rfl, rfl⟩))
          go_ret
          exact ⟨rfl, rfl⟩
        · rw [if_neg h2]
          go_enter Try.func74, Try.ntmps74
          go_wp2_with (first | (go_at_call 78; refine VR.out.mono ?_; rintro e w' ⟨rfl, rfl⟩) | (go_at_call 80; refine VC.out.mono ?_; rintro e w' ⟨rfl, rfl⟩) | (go_at_call 25; refine VE.out.mono ?_; rintro e w' ⟨rfl, rfl⟩))
          go_ret
          exact ⟨rfl, rfl⟩
end Go.Proofs.Qxb6500716a
