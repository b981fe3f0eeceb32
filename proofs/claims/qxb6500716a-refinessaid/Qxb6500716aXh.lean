/-
  Refines: the law.
-/
import Derived.Test.Qxb6500716aXg
namespace Go.Proofs.Qxb6500716a
open Go.RowKit Go.Maps
set_option linter.unusedSimpArgs false
set_option linter.unusedVariables false
set_option maxRecDepth 20000
set_option maxHeartbeats 4000000
/-- A code with another body in a block. -/
def setBlock (n : Nat) (b : Code) : Code → Code
  | .block m c => if m = n then .block m b else .block m (setBlock n b c)
  | .seq x y => .seq (setBlock n b x) (setBlock n b y)
  | .loop c => .loop (setBlock n b c)
  | .scope c => .scope (setBlock n b c)
  | .cond o x y => .cond o (setBlock n b x) (setBlock n b y)
  | c => c
theorem wp_cut {P : Program} {Q : Exit → Act → World → Prop} {a : Act} {w : World} {C : Code} (n : Nat) (X : Code) (hX : setBlock n X C = C) (h : ∀ B : Code, (∀ Q' a' w', Code.wp P X Q' a' w' → Code.wp P B Q' a' w') → Code.wp P (setBlock n B C) Q a w) : Code.wp P C Q a w := by
  have := h X (fun _ _ _ h => h)
  rw [hX] at this
  exact this
set_option maxHeartbeats 40000000 in
theorem law3r (sb so n cap : Nat) (o : Nat → Opr) (lao : Nat → Option Addr) (lcap : Nat → Nat) (w : World) (hS : Scr w sb so n o lao lcap) (hn : n ≤ 9223372036854775807) :
    Calls Try.prog 3 #[.slice (some ⟨sb, so, none⟩) n cap] w fun e w' => e = .returned (.bool true) ∧ Below w.heap.size w w' := by
  have HS := hid hS
  have SM := hid (small_any sb so n cap o lao lcap w hS hn)
  clear hS
  go_enter Try.func3, Try.ntmps3
  go_wp2_with (go_at_call 11; refine hold ?_)
  unfold Hid
  refine SM.out.mono ?_
  rintro e w1 ⟨⟨b, rfl, hsm⟩, hw1⟩
  obtain rfl : w = w1 := hw1.symm
  clear hw1 SM
  cases b with
  | false =>
    go_wp2
    go_ret
    exact ⟨rfl, Below.rf _⟩
  | true =>
  obtain ⟨hn1, hn2⟩ := hsm rfl
  have HN2 := hid hn2
  clear hsm hn2
  go_wp2
  refine wp_nm fun w1 hw1 => ?_
  have P0 : Hid (Play w w1 (fun b => if b < w.heap.size then 0 else 1) w.heap.size 0 ⟨.pointer none, .pointer none, .pointer none, .slice none 0 0, .slice none 0 0, .slice none 0 0⟩ Dk.zero) := by
    unfold Hid
    rw [hw1]
    refine ⟨⟨⟨by (simp <;> omega), fun i hi => ?_, fun i hi => by simp [go_sem, ↓IntWalk.iteOmega]⟩, by simp, ⟨rfl, rfl, rfl⟩, ⟨⟨none, 0, rfl, Nat.le_refl _⟩, by simp [Dk.zero], fun c hc => by simp [Dk.zero] at hc, fun j c hj => by simp [Dk.zero] at hj⟩, Ints.nil _ _, Ints.nil _ _, fun h => absurd rfl h⟩, by (repeat (first | with_reducible exact Below.rf _ | with_reducible exact World.below_ext _ _ | with_reducible refine Below.ex ?_ _ | with_reducible refine Below.al ?_ _ | with_reducible refine Below.setCell ?_ (by simp) _ | with_reducible refine Below.drew ?_)), fun j hj => if_pos hj, fun X hX => by simp [Dk.zero] at hX⟩
    rcases (by omega : i = 0 ∨ i = 1 ∨ i = 2 ∨ i = 3 ∨ i = 4 ∨ i = 5 ∨ i = 6 ∨ i = 7 ∨ i = 8 ∨ i = 9 ∨ i = 10 ∨ i = 11 ∨ i = 12 ∨ i = 13 ∨ i = 14) with rfl | rfl | rfl | rfl | rfl | rfl | rfl | rfl | rfl | rfl | rfl | rfl | rfl | rfl | rfl <;> simp [go_sem, ↓IntWalk.iteOmega, dcell, Dk.zero]
  have M0 : Hid (Pm w w1 (fun b => if b < w.heap.size then 0 else 1) (fun b => if b < w.heap.size then 0 else if b = w.heap.size + 1 then 1 else 5) w.heap.size (w.heap.size + 1) (.pointer none) (.pointer none) (Dk.zero.W.map mw)) := by
    unfold Hid
    refine ⟨⟨?_, ?_, ⟨rfl, rfl⟩⟩, fun b hb h1 h2 => ?_, fun b hb h1 h2 => ?_, fun b hb => if_pos hb⟩
    · rw [hw1]
      refine ⟨by (simp <;> omega), fun i hi => ?_, fun i hi => by simp [go_sem, ↓IntWalk.iteOmega]⟩
      rcases (by omega : i = 0 ∨ i = 1) with rfl | rfl <;> simp [go_sem, ↓IntWalk.iteOmega, fc]
    · show (if _ then _ else _) = 1
      rw [if_neg (by omega), if_pos rfl]
    · try simp only at h1 h2 ⊢
      split at h1
      · omega
      · rename_i hx
        rw [if_neg hx]
        split <;> omega
    · try simp only at h1 h2 ⊢
      by_cases hx : b < w.heap.size
      · rw [if_pos hx] at h1
        omega
      · rw [if_neg hx] at h1 h2 ⊢
        by_cases hy : b = w.heap.size + 1
        · exact ⟨rfl, by omega⟩
        · rw [if_neg hy] at h2
          omega
  clear hw1
  obtain ⟨mb, hmb⟩ : ∃ y, w.heap.size + 1 = y := ⟨_, rfl⟩
  obtain ⟨lm1, hlm1⟩ : ∃ y, (fun b => if b < w.heap.size then 0 else if b = w.heap.size + 1 then 1 else 5) = y := ⟨_, rfl⟩
  rw [hlm1] at M0
  rw [hmb] at M0 ⊢
  clear hmb hlm1
  obtain ⟨d, hd⟩ : ∃ y, w.heap.size = y := ⟨_, rfl⟩
  obtain ⟨l1, hl1⟩ : ∃ y, (fun b => if b < w.heap.size then 0 else 1) = y := ⟨_, rfl⟩
  rw [hl1] at P0 M0
  clear hl1
  have hdw : w.heap.size ≤ d := by omega
  rw [hd] at P0 M0 ⊢
  clear hd
  go_loopw [18] (fun y wr => ∃ (i : Nat) (lab labm : Nat → Nat) (m : DM) (D : Dk) (fv tv : Value), y = .int .i64 (i) ∧ i ≤ n ∧ Play w wr lab d i m D ∧ D.inv ∧ D.cel ∧ D.fex ∧ Pm w wr lab labm d mb fv tv (D.W.map mw)) (fun y _ => n - (intOf y).toNat)
  case atStart => exact ⟨0, l1, lm1, _, _, _, _, rfl, Nat.zero_le _, P0.out, fun X hX => by simp [Dk.zero] at hX, fun X hX => by simp [Dk.zero] at hX, fun X hX => by simp [Dk.zero] at hX, M0.out⟩
  case round =>
    obtain ⟨i, lab, labm, m, D, fv, tv, rfl, hi, hP, hinv, hcel, hfex, hPm⟩ := hrel
    clear P0 M0 w1
    have HP := hid hP
    have HINV := hid hinv
    have HCEL := hid hcel
    have HFEX := hid hfex
    have HPM := hid hPm
    clear hP hinv hcel hfex hPm
    by_cases hin : i < n
    · have di : decide ((i : Int) < (n : Int)) = true := by simp; omega
      have din : decide (i < n) = true := by simp; omega
      refine wp_cut 1 ((Try.f3.body.bind (findBlock 1)).getD .skip) (by kernel_rfl) ?_
      intro B hB
      simp only [setBlock]
      go_wp2
      refine hB _ _ _ ?_
      refine wp_mono (body3 sb so n cap d mb i o lao lcap w wr lab labm m D fv tv HS.out hin hn1 HN2.out hdw HP.out HINV.out HCEL.out HFEX.out HPM.out _ _ _ _ _ _ _ _ _ _ _ _ _ _ _ _ _ _ _ _ _ _ _ _ _ _ _ _ _ _ _ _ _ _ _ _ _ _ _ _ _ _ _ _ _ _ _ _ _ _ _ _ _ _ _ _ _ _ _ _ _ _ _ _ _ _ _ _ _ _ _ _ _ _ _ _ _ _ _ _ _ _ _ _ _ _ _ _ _ _ _ _ _ _ _ _ _ _ _ _ _ _ _ _ _ _ _ _ _ _ _ _ _ _ _ _ _ _ _ _ _ _ _) ?_
      intro e a' w'' hE
      obtain ⟨he, ⟨l5, lm5, m5, D', fv5, tv5, hP5, hI5, hC5, hF5, hPm5⟩, hE⟩ := hE
      obtain ⟨UBO, hE⟩ := hE
      obtain rfl := hE
      have HP5 := hid hP5
      have HIV5 := hid hI5
      have HCL5 := hid hC5
      have HFX5 := hid hF5
      have HPM5 := hid hPm5
      clear hP5 hI5 hC5 hF5 hPm5 HP HINV HCEL HFEX HPM
      rcases he with rfl | rfl
      · go_wp2
        go_roundw
        case rel => exact ⟨i + 1, l5, lm5, m5, D', fv5, tv5, by go_num, by omega, HP5.out, HIV5.out, HCL5.out, HFX5.out, HPM5.out⟩
        case measure => (simp [intOf] <;> omega)
      · go_wp2
        go_roundw
        case rel => exact ⟨i + 1, l5, lm5, m5, D', fv5, tv5, by go_num, by omega, HP5.out, HIV5.out, HCL5.out, HFX5.out, HPM5.out⟩
        case measure => (simp [intOf] <;> omega)
    · have di : decide ((i : Int) < (n : Int)) = false := by simp; omega
      have din : decide (i < n) = false := by simp; omega
      go_wp2
      go_ret
      exact ⟨rfl, HP.out.bl⟩
end Go.Proofs.Qxb6500716a
