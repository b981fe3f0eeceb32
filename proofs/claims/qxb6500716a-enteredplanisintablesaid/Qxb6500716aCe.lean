/-
  CellAt, GoalsDone: the walks.
-/
import Derived.Test.Qxb6500716aQg
namespace Go.Proofs.Qxb6500716a
open Go.RowKit Go.Maps
set_option linter.unusedSimpArgs false
set_option linter.unusedVariables false
set_option maxRecDepth 20000
set_option maxHeartbeats 4000000
/-- Where a plan has the robot. -/
def cellAt (t : Int) (path : List Int) (b : Int) : Int := if b < t then -1 else path.getD (min (b - t).toNat (path.length - 1)) 0
theorem cellAt_any (t x b : Int) (pv : Value) (dq : Option Addr) (dn dc : Nat) (path : List Int) (lab : Nat → Nat) (w : World) (hI : Ints w lab pv path) (hl : 1 ≤ path.length ∧ path.length ≤ 300) (ht : -4000000000 ≤ t ∧ t ≤ 4000000000) (hb : -4000000000 ≤ b ∧ b ≤ 4000000000) :
    Calls Try.prog 39 #[.agg #[.int .u8 (0), .int .i64 (t), pv, .slice dq dn dc, .int .i64 (x)], .int .i64 (b)] w fun e w' => e = .returned (.int .i64 (cellAt t path b)) ∧ ∃ z, w' = w.ext z := by
  obtain ⟨po, pc, hpv, hpc⟩ := hI.ex
  have HI := hid hI
  obtain ⟨pn, hpn⟩ : ∃ y, path.length = y := ⟨_, rfl⟩
  rw [hpn] at hpv hl hpc
  have HPN := hid hpn
  subst hpv
  clear hI hpn
  have AR : Hid (∀ w' : World, Calls Try.prog 36 #[.agg #[.int .u8 (0), .int .i64 (t), .slice po pn pc, .slice dq dn dc, .int .i64 (x)]] w' fun e w'' => e = .returned (.int .i64 (t + pn - 1)) ∧ ∃ z, w'' = w'.ext z) := fun w' => arrival_any 0 t x po pn pc (.slice dq dn dc) w' ht (by omega)
  by_cases h1 : b < t
  · have d1 : decide (b < t) = true := by simp [h1]
    have HR : Hid (cellAt t path b = -1) := by unfold Hid cellAt; rw [if_pos h1]
    go_enter Try.func39, Try.ntmps39
    go_wp2
    go_ret
    refine ⟨by rw [HR.out]; rfl, ?_⟩
    refine Below.is_ext ?_
    repeat (first | with_reducible exact Below.rf _ | with_reducible exact World.below_ext _ _ | with_reducible refine Below.ex ?_ _ | with_reducible refine Below.al ?_ _ | with_reducible refine Below.setCell ?_ (by simp) _ | with_reducible refine Below.drew ?_)
  · have d1 : decide (b < t) = false := by simp; omega
    obtain ⟨j, hj⟩ : ∃ j, min (b - t).toNat (pn - 1) = j := ⟨_, rfl⟩
    have hjl : j < path.length := by rw [HPN.out]; omega
    have hg : path[j]? = some (path.getD j 0) := by rw [List.getD_eq_getElem?_getD, List.getElem?_eq_getElem hjl]; rfl
    obtain ⟨bk, ba, n', cap', hv, hbl, -, cq⟩ := HI.out.row j _ hg
    simp only [Value.slice.injEq] at hv
    obtain ⟨rfl, -, -⟩ := hv
    have HR : Hid (cellAt t path b = path.getD j 0) := by unfold Hid cellAt; rw [if_neg h1, HPN.out, hj]
    generalize path.getD j 0 = c at *
    by_cases h2 : t + pn - 1 ≤ b
    · have d2 : decide (t + (pn : Int) - 1 ≤ b) = true := by simp; omega
      obtain rfl : j = pn - 1 := by omega
      obtain ⟨k, rfl⟩ : ∃ k, pn = k + 1 := ⟨pn - 1, by omega⟩
      rw [Nat.add_sub_cancel] at cq
      clear hg hj
      go_enter Try.func39, Try.ntmps39
      go_wp2_with (first | (go_at_call 36; refine (AR.out _).mono ?_; rintro e w' ⟨rfl, z, rfl⟩))
      go_ret
      refine ⟨by rw [HR.out]; rfl, ?_⟩
      refine Below.is_ext ?_
      repeat (first | with_reducible exact Below.rf _ | with_reducible exact World.below_ext _ _ | with_reducible refine Below.ex ?_ _ | with_reducible refine Below.al ?_ _ | with_reducible refine Below.setCell ?_ (by simp) _ | with_reducible refine Below.drew ?_)
    · have d2 : decide (t + (pn : Int) - 1 ≤ b) = false := by simp; omega
      have hjb : b - t = (j : Int) := by omega
      obtain rfl : b = t + j := by omega
      clear hg hj hjb
      have hw1 : t + (j : Int) - t = (j : Int) := by omega
      go_enter Try.func39, Try.ntmps39
      go_wp2_with (first | (go_at_call 36; refine (AR.out _).mono ?_; rintro e w' ⟨rfl, z, rfl⟩))
      go_ret
      refine ⟨by rw [HR.out]; rfl, ?_⟩
      refine Below.is_ext ?_
      repeat (first | with_reducible exact Below.rf _ | with_reducible exact World.below_ext _ _ | with_reducible refine Below.ex ?_ _ | with_reducible refine Below.al ?_ _ | with_reducible refine Below.setCell ?_ (by simp) _ | with_reducible refine Below.drew ?_)
/-- How many done ticks from the front are reached. -/
def doneN (b : Int) : List Int → Nat
  | [] => 0
  | d :: l => if d ≤ b then doneN b l + 1 else 0
/-- How many done ticks are reached. -/
def doneC (b : Int) : List Int → Nat
  | [] => 0
  | d :: l => (if d ≤ b then 1 else 0) + doneC b l
theorem done_eq (b : Int) : ∀ l : List Int, (∀ (i j : Nat) (x y : Int), i ≤ j → l[i]? = some x → l[j]? = some y → x ≤ y) → doneN b l = doneC b l
  | [], _ => rfl
  | d :: l, h => by
    have ih := done_eq b l (fun i j x y hij hx hy => h (i + 1) (j + 1) x y (by omega) hx hy)
    rw [doneN, doneC]
    by_cases e : d ≤ b
    · rw [if_pos e, if_pos e, ih]; omega
    · rw [if_neg e, if_neg e]
      have hz : ∀ m : List Int, (∀ y, y ∈ m → b < y) → doneC b m = 0 := fun m => by
        induction m with
        | nil => intro _; rfl
        | cons a m ihm => intro hm; rw [doneC, if_neg (by have := hm a (by simp); omega), ihm (fun y hy => hm y (by simp [hy]))]
      rw [hz l (fun y hy => by
        obtain ⟨k, hk⟩ := List.mem_iff_getElem?.1 hy
        have := h 0 (k + 1) d y (by omega) rfl hk
        omega)]
theorem goalsDone_any (c t x b : Int) (pa : Option Addr) (pn pc : Nat) (dv : Value) (done : List Int) (lab : Nat → Nat) (w : World) (hI : Ints w lab dv done) (hl : done.length ≤ 300) :
    Calls Try.prog 40 #[.agg #[.int .u8 (c), .int .i64 (t), .slice pa pn pc, dv, .int .i64 (x)], .int .i64 (b)] w fun e w' => e = .returned (.int .i64 (doneN b done)) ∧ ∃ z, w' = w.ext z := by
  obtain ⟨dq, dc, hdv, hdc⟩ := hI.ex
  have HI := hid hI
  obtain ⟨dn, hdn⟩ : ∃ y, done.length = y := ⟨_, rfl⟩
  rw [hdn] at hdv hl hdc
  have HDN := hid hdn
  subst hdv
  obtain ⟨res, hres⟩ : ∃ y, doneN b done = y := ⟨_, rfl⟩
  rw [hres]
  have HR := hid hres
  clear hI hdn hres
  go_enter Try.func40, Try.ntmps40
  go_wp2
  refine wp_nm fun w1 hw1 => ?_
  have B1 : Below w.heap.size w w1 := by rw [hw1]; (repeat (first | with_reducible exact Below.rf _ | with_reducible exact World.below_ext _ _ | with_reducible refine Below.ex ?_ _ | with_reducible refine Below.al ?_ _ | with_reducible refine Below.setCell ?_ (by simp) _ | with_reducible refine Below.drew ?_))
  have c3 : w1.cell? ⟨w.heap.size, 3, none⟩ = some (.slice dq dn dc) := by rw [hw1]; simp [go_sem, ↓IntWalk.iteOmega]
  have hl1 : w.heap.size < w1.heap.size := by rw [hw1]; simp
  have HB1 := hid B1
  clear hw1 B1
  go_loopw [5] (fun v wr => ∃ k : Nat, v = .int .i64 (k) ∧ k ≤ dn ∧ doneN b (done.drop k) + k = res ∧ wr = w1) (fun v _ => dn - (intOf v).toNat)
  case atStart => exact ⟨0, rfl, Nat.zero_le _, by simpa using HR.out, rfl⟩
  case round =>
    obtain ⟨k, rfl, hk, heq, hwr⟩ := hrel
    obtain rfl := hwr.symm
    by_cases hkn : k < dn
    · have dk : decide ((k : Int) < (dn : Int)) = true := by simp; omega
      have dkn : decide (k < dn) = true := by simp; omega
      have hkl : k < done.length := by rw [HDN.out]; exact hkn
      have hx : done[k]? = some done[k] := List.getElem?_eq_getElem hkl
      rw [List.drop_eq_getElem_cons hkl, doneN] at heq
      generalize done[k] = dd at *
      obtain ⟨bk, ba, n', cap', hv, hbl, -, cq⟩ := HI.out.row k _ hx
      simp only [Value.slice.injEq] at hv
      obtain ⟨rfl, -, -⟩ := hv
      have cq' : w1.cell? ⟨bk, ba + k, none⟩ = some (.int .i64 (dd)) := (World.cell?_of_block (HB1.out.block bk hbl)).trans cq
      have hbl1 : bk < w1.heap.size := Nat.lt_of_lt_of_le hbl HB1.out.size
      by_cases hd : dd ≤ b
      · rw [if_pos hd] at heq
        have HE := hid heq
        have dd1 : decide (dd ≤ b) = true := by simp [hd]
        clear heq hx cq
        go_wp2
        go_roundw
        case rel => exact ⟨k + 1, by go_num, by omega, by have := HE.out; omega, trivial⟩
        case measure => (simp [intOf] <;> omega)
      · rw [if_neg hd] at heq
        have HE := hid heq
        have dd1 : decide (dd ≤ b) = false := by simp; omega
        clear heq hx cq
        go_wp2
        go_ret
        exact ⟨by rw [← HE.out]; simp, HB1.out.is_ext⟩
    · have dk : decide ((k : Int) < (dn : Int)) = false := by simp; omega
      have dkn : decide (k < dn) = false := by simp; omega
      rw [List.drop_eq_nil_of_le (by rw [HDN.out]; omega), doneN] at heq
      have HE := hid heq
      clear heq
      go_wp2
      go_ret
      exact ⟨by rw [← HE.out]; simp, HB1.out.is_ext⟩
end Go.Proofs.Qxb6500716a
