/-
  The floor's readers, and an operation's goals.
-/
import Derived.Test.Qxb6500716aFm
namespace Go.Proofs.Qxb6500716a
open Go.RowKit Go.Maps
set_option linter.unusedSimpArgs false
set_option linter.unusedVariables false
set_option maxRecDepth 20000
set_option maxHeartbeats 4000000

theorem robots_any (fb : Nat) (F : FS) (lab : Nat → Nat) (w : World) (h : FAt w lab fb F) : Calls Try.prog 23 #[.pointer (some ⟨fb, 0, none⟩)] w fun e w' => e = .returned (.int .i64 (F.bays.length)) ∧ w' = w := by
  obtain ⟨v, c1, hi⟩ := h.bay
  obtain ⟨ao, cap, rfl, hc⟩ := hi.ex
  have hlt := h.lt
  have hl := hi.len
  clear h hi
  go_enter Try.func23, Try.ntmps23
  go_wp2
  go_ret
  exact ⟨rfl, rfl⟩
theorem cells_any (fb : Nat) (F : FS) (lab : Nat → Nat) (w : World) (h : FAt w lab fb F) : Calls Try.prog 30 #[.pointer (some ⟨fb, 0, none⟩)] w fun e w' => e = .returned (.int .i64 (F.n)) ∧ w' = w := by
  obtain ⟨ao, cap, c0⟩ := h.place
  have hlt := h.lt
  have hl := h.ok.n
  clear h
  go_enter Try.func30, Try.ntmps30
  go_wp2
  go_ret
  exact ⟨rfl, rfl⟩
def FS.valid (F : FS) (c : Int) : Bool := decide (0 ≤ c) && decide (c < (F.n : Int))
theorem FS.valid_iff {F : FS} {c : Int} : F.valid c = true ↔ 0 ≤ c ∧ c < (F.n : Int) := by simp [FS.valid]
theorem valid_any (fb : Nat) (F : FS) (lab : Nat → Nat) (c : Int) (w : World) (h : FAt w lab fb F) : Calls Try.prog 53 #[.pointer (some ⟨fb, 0, none⟩), .int .i64 (c)] w fun e w' => e = .returned (.bool (F.valid c)) ∧ w' = w := by
  obtain ⟨ao, cap, c0⟩ := h.place
  have hlt := h.lt
  have hl := h.ok.n
  unfold FS.valid
  clear h
  go_enter Try.func53, Try.ntmps53
  go_wp2
  (all_goals (go_ret; refine ⟨ret_bool ?_, rfl⟩; (first | (simp; done) | (simp; omega) | (simp [*]; done) | (simp [*]; omega))))
/-- A robot's bay. -/
def FS.park (F : FS) (r : Int) : Int × Bool := if 0 ≤ r ∧ r < (F.bays.length : Int) then (F.bays.getD r.toNat (-1), true) else (-1, false)
theorem parking_any (fb : Nat) (F : FS) (lab : Nat → Nat) (r : Int) (w : World) (h : FAt w lab fb F) : Calls Try.prog 20 #[.pointer (some ⟨fb, 0, none⟩), .int .i64 (r)] w fun e w' => e = .returned (.tuple #[.int .i64 ((F.park r).1), .bool (F.park r).2]) ∧ w' = w := by
  obtain ⟨v, c1, hi⟩ := h.bay
  obtain ⟨ao, cap, rfl, hc⟩ := hi.ex
  have hlt := h.lt
  have hl := h.ok.nb
  by_cases hr : 0 ≤ r ∧ r < (F.bays.length : Int)
  · obtain ⟨k, rfl⟩ : ∃ k : Nat, r = k := ⟨r.toNat, by omega⟩
    have hk : k < F.bays.length := by omega
    have hx : F.bays[k]? = some F.bays[k] := List.getElem?_eq_getElem hk
    obtain ⟨b, a, n, cap', hv, hbl, -, q⟩ := hi.row k _ hx
    have e1 : F.park k = (F.bays[k], true) := by
      unfold FS.park
      rw [if_pos hr]
      simp [List.getD_eq_getElem?_getD, hk]
    rw [e1]
    simp only
    generalize F.bays[k] = x at *
    simp only [Value.slice.injEq] at hv
    obtain ⟨rfl, -, -⟩ := hv
    generalize F.bays.length = m at *
    clear h hi hx e1
    go_enter Try.func20, Try.ntmps20
    go_wp2
    go_ret2
    exact ⟨rfl, rfl⟩
  · have e1 : F.park r = (-1, false) := by unfold FS.park; rw [if_neg hr]
    rw [e1]
    simp only
    generalize F.bays.length = m at *
    clear h hi e1
    by_cases h0 : r < 0
    · go_enter Try.func20, Try.ntmps20
      go_wp2
      go_ret2
      exact ⟨rfl, rfl⟩
    · have h1 : (m : Int) ≤ r := by omega
      clear hr
      go_enter Try.func20, Try.ntmps20
      go_wp2
      go_ret2
      exact ⟨rfl, rfl⟩
theorem near_any (fb : Nat) (F : FS) (lab : Nat → Nat) (c : Nat) (hc : c < F.n) (w : World) (h : FAt w lab fb F) : Calls Try.prog 32 #[.pointer (some ⟨fb, 0, none⟩), .int .i64 (c)] w fun e w' => ∃ v, e = .returned v ∧ w' = w ∧ Ints w lab v (F.near c) := by
  obtain ⟨b, c2, hb, -, hr⟩ := h.near
  obtain ⟨v, cv, hi⟩ := hr c hc
  obtain ⟨ao, cap, hv, hcc⟩ := hi.ex
  have hlt := h.lt
  have HI := hid hi
  subst hv
  clear h hr hi
  go_enter Try.func32, Try.ntmps32
  go_wp2
  go_ret
  exact ⟨_, rfl, rfl, HI.out⟩
theorem dist_any (fb : Nat) (F : FS) (lab : Nat → Nat) (a b : Nat) (ha : a < F.n) (hb : b < F.n) (w : World) (h : FAt w lab fb F) : Calls Try.prog 61 #[.pointer (some ⟨fb, 0, none⟩), .int .i64 (a), .int .i64 (b)] w fun e w' => e = .returned (.int .i64 (F.dist a b)) ∧ w' = w := by
  obtain ⟨d, c3, hd, -, hr⟩ := h.dist
  obtain ⟨v, cv, hi⟩ := hr a ha
  obtain ⟨b2, a2, n, cap', hv, hbl, -, q⟩ := hi.row b _ (drow_at (F.dist a) F.n b hb)
  obtain ⟨ao, cap, hv2, hcc⟩ := hi.ex
  rw [hv] at hv2
  simp only [Value.slice.injEq, drow_len] at hv2
  obtain ⟨rfl, rfl, rfl⟩ := hv2
  have hlt := h.lt
  subst hv
  clear h hr hi
  go_enter Try.func61, Try.ntmps61
  go_wp2
  go_ret
  exact ⟨rfl, rfl⟩
def FS.adj (F : FS) (a b : Int) : Bool := F.valid a && F.valid b && (F.dist a.toNat b.toNat == 1)
theorem adjacent_any (fb : Nat) (F : FS) (lab : Nat → Nat) (a b : Int) (w : World) (h : FAt w lab fb F) : Calls Try.prog 21 #[.pointer (some ⟨fb, 0, none⟩), .int .i64 (a), .int .i64 (b)] w fun e w' => e = .returned (.bool (F.adj a b)) ∧ w' = w := by
  have VA := hid (valid_any fb F lab a w h)
  have VB := hid (valid_any fb F lab b w h)
  have hlt := h.lt
  unfold FS.adj
  cases ha : F.valid a with
  | false =>
    rw [ha] at VA
    clear h
    simp only [Bool.false_and]
    go_enter Try.func21, Try.ntmps21
    go_wp2_with (first | (go_at_call 53; with_reducible refine VA.out.mono ?_; rintro e w' ⟨rfl, rfl⟩))
    go_ret
    exact ⟨rfl, rfl⟩
  | true =>
    rw [ha] at VA
    cases hb : F.valid b with
    | false =>
      rw [hb] at VB
      clear h
      simp only [Bool.false_and, Bool.true_and]
      go_enter Try.func21, Try.ntmps21
      go_wp2_with (first | (go_at_call 53; with_reducible refine VA.out.mono ?_; rintro e w' ⟨rfl, rfl⟩) | (go_at_call 53; with_reducible refine VB.out.mono ?_; rintro e w' ⟨rfl, rfl⟩))
      go_ret
      exact ⟨rfl, rfl⟩
    | true =>
      rw [hb] at VB
      rw [FS.valid_iff] at ha hb
      obtain ⟨a, rfl⟩ : ∃ k : Nat, a = k := ⟨a.toNat, by omega⟩
      obtain ⟨b, rfl⟩ : ∃ k : Nat, b = k := ⟨b.toNat, by omega⟩
      obtain ⟨d, c3, hd, -, hr⟩ := h.dist
      obtain ⟨v, cv, hi⟩ := hr a (by omega)
      obtain ⟨b2, a2, n, cap', hv, hbl, -, q⟩ := hi.row b _ (drow_at (F.dist a) F.n b (by omega))
      obtain ⟨ao, cap, hv2, hcc⟩ := hi.ex
      rw [hv] at hv2
      simp only [Value.slice.injEq, drow_len] at hv2
      obtain ⟨rfl, rfl, rfl⟩ := hv2
      subst hv
      simp only [Bool.true_and, Int.toNat_natCast]
      clear h hr hi
      generalize F.dist a b = x at *
      by_cases g : x = 1
      · have g' : ((x : Int) == 1) = true := by simp; omega
        have e1 : (x == 1) = true := by simp [g]
        rw [e1]
        clear g e1
        go_enter Try.func21, Try.ntmps21
        go_wp2_with (first | (go_at_call 53; with_reducible refine VA.out.mono ?_; rintro e w' ⟨rfl, rfl⟩) | (go_at_call 53; with_reducible refine VB.out.mono ?_; rintro e w' ⟨rfl, rfl⟩))
        go_ret
        exact ⟨rfl, rfl⟩
      · have g' : ((x : Int) == 1) = false := by simp; omega
        have e1 : (x == 1) = false := by simp [g]
        rw [e1]
        clear g e1
        go_enter Try.func21, Try.ntmps21
        go_wp2_with (first | (go_at_call 53; with_reducible refine VA.out.mono ?_; rintro e w' ⟨rfl, rfl⟩) | (go_at_call 53; with_reducible refine VB.out.mono ?_; rintro e w' ⟨rfl, rfl⟩))
        go_ret
        exact ⟨rfl, rfl⟩
end Go.Proofs.Qxb6500716a
