/-
  choosePivot_func: the walk.
-/
import Derived.Test.Qxb6500717aGreatSo3
namespace Go.Proofs.Qxb6500717aGreat
open Go.RowKit
set_option linter.unusedSimpArgs false
set_option linter.unusedVariables false
set_option linter.unusedSectionVars false
variable {α : Type} [Inhabited α] {S : Srt α}
theorem Kp2.but {b C : Nat} {w w' : World} (h : Kp2 b C w w') (hC : w.heap.size ≤ C) : KeptBut b w w' := ⟨h.os, h.tape, h.output, h.size, fun k h1 h2 => h.block k h1 h2 (by omega)⟩
/-- What choosePivot says of the count. -/
def hintOf (s : Nat) : Sort.Hint := if s = 0 then .increasing else if s = 12 then .decreasing else .unknown
theorem hint1 {m s : Nat} (h : s = 0) : (.returned (.tuple #[.int .i64 (m), .int .i64 (1)]) : Ending) = .returned (.tuple #[.int .i64 (m), .int .i64 (hintN (hintOf s))]) := by subst h; rfl
theorem hint2 {m s : Nat} (h : s = 12) : (.returned (.tuple #[.int .i64 (m), .int .i64 (2)]) : Ending) = .returned (.tuple #[.int .i64 (m), .int .i64 (hintN (hintOf s))]) := by subst h; rfl
theorem hint0 {m s : Nat} (h : ¬ s = 0) (h2 : ¬ s = 12) : (.returned (.tuple #[.int .i64 (m), .int .i64 (0)]) : Ending) = .returned (.tuple #[.int .i64 (m), .int .i64 (hintN (hintOf s))]) := by unfold hintOf; rw [if_neg h, if_neg h2]; rfl
theorem ma_lt {lt : α → α → Bool} {d : Array α} {a s n : Nat} (ha : a + 1 < n) : (Sort.medianAdjacent lt d a s).1 < n ∧ (Sort.medianAdjacent lt d a s).2 ≤ s + 3 := by
  unfold Sort.medianAdjacent
  exact med_lt (by omega) (by omega) (by omega)
set_option maxRecDepth 20000 in
set_option maxHeartbeats 4000000 in
theorem pivot_any (O : S.Ok) (a b : Nat) (d : Array α) (W : World) (h : S.St W d) (h8 : 8 ≤ b - a) (hb : b ≤ S.n) :
    Calls Tryz.prog 102 #[S.dv, .int .i64 (a), .int .i64 (b)] W (cpPost S d (Sort.choosePivot S.lt d a b) W) := by
  have HO := hid O
  have hnb := O.nb
  have HD := hid (Srt.Dat.new h O 120)
  have HS := hid (h.al O (.cells #[.func (.func S.g) #[] S.lb, .func (.func S.sf) #[] S.sb] 120))
  have hw0 := h.kb.size
  have hne := h.lt O
  obtain ⟨l, hl⟩ : ∃ l, b - a = l := ⟨_, rfl⟩
  obtain ⟨q, hq⟩ : ∃ q, l / 4 = q := ⟨_, rfl⟩
  have e1 : (b : Int) - (a : Int) = (l : Int) := by omega
  have e2 : (l : Int) / 4 = (q : Int) := by omega
  have hqb : 2 ≤ q ∧ 4 * q ≤ l ∧ a + l ≤ S.n := by omega
  have hc1 : (W.alloc (.cells #[.func (.func S.g) #[] S.lb, .func (.func S.sf) #[] S.sb] 120)).heap.size = W.heap.size + 1 := by simp
  have HC0 : Hid (S.Cn ((W.alloc (.cells #[.func (.func S.g) #[] S.lb, .func (.func S.sf) #[] S.sb] 120)).alloc (.cells #[.int .i64 0] 3)) (W.heap.size + 1) 0) := hid ⟨by simp, by simp, by simp, by omega⟩
  have HS0 := hid (HS.out.al O (.cells #[.int .i64 0] 3))
  have HD0 := hid (HD.out.kept (((KeptBut.refl S.blk _).al (.cells #[.int .i64 0] 3))))
  unfold cpPost Sort.choosePivot
  simp only [hl, hq]
  rw [if_pos (by omega)]
  clear h hl hq
  by_cases h50 : 50 ≤ l
  · rw [if_pos h50]
    obtain ⟨⟨i1, s1⟩, hr1⟩ : ∃ r, Sort.medianAdjacent S.lt d (a + q * 1) 0 = r := ⟨_, rfl⟩
    have k1 := ma_lt (lt := S.lt) (d := d) (a := a + q * 1) (s := 0) (n := S.n) (by omega)
    simp only [hr1]
    rw [hr1] at k1
    obtain ⟨⟨i2, s2⟩, hr2⟩ : ∃ r, Sort.medianAdjacent S.lt d (a + q * 2) s1 = r := ⟨_, rfl⟩
    have k2 := ma_lt (lt := S.lt) (d := d) (a := a + q * 2) (s := s1) (n := S.n) (by omega)
    simp only [hr2]
    rw [hr2] at k2
    obtain ⟨⟨i3, s3⟩, hr3⟩ : ∃ r, Sort.medianAdjacent S.lt d (a + q * 3) s2 = r := ⟨_, rfl⟩
    have k3 := ma_lt (lt := S.lt) (d := d) (a := a + q * 3) (s := s2) (n := S.n) (by omega)
    simp only [hr3]
    rw [hr3] at k3
    obtain ⟨⟨m, s⟩, hr⟩ : ∃ r, Sort.median S.lt d i1 i2 i3 s3 = r := ⟨_, rfl⟩
    simp only [hr]
    simp only at k1 k2 k3
    rw [show (if s = 0 then Sort.Hint.increasing else if s = 12 then Sort.Hint.decreasing else Sort.Hint.unknown) = hintOf s from rfl]
    have A1 := hid (fun w' h' hC' => hr1 ▸ medAdj_any O (a + q * 1) (W.heap.size + 1) 0 d w' h' hC' (by omega) (by omega) (by omega) (by omega))
    have A2 := hid (fun w' h' hC' => hr2 ▸ medAdj_any O (a + q * 2) (W.heap.size + 1) s1 d w' h' hC' (by omega) (by omega) (by omega) (by omega))
    have A3 := hid (fun w' h' hC' => hr3 ▸ medAdj_any O (a + q * 3) (W.heap.size + 1) s2 d w' h' hC' (by omega) (by omega) (by omega) (by omega))
    have A4 := hid (fun w' h' hC' => hr ▸ median_any O i1 i2 i3 (W.heap.size + 1) s3 d w' h' hC' (by omega) (by omega) (by omega) (by omega) (by omega))
    simp only [show ((a + q * 1 : Nat) : Int) = (a : Int) + (q : Int) by push_cast; omega] at A1
    simp only [show ((a + q * 2 : Nat) : Int) = (a : Int) + (q : Int) * 2 by push_cast; omega] at A2
    simp only [show ((a + q * 3 : Nat) : Int) = (a : Int) + (q : Int) * 3 by push_cast; omega] at A3
    unfold Srt.dv at A1 A2 A3 A4 ⊢
    unfold medPost at A1 A2 A3 A4
    have c0 := HD0.out.c0
    have c1 := HD0.out.c1
    clear hr hr1 hr2 hr3
    rcases (by omega : s = 0 ∨ s = 12 ∨ (¬ s = 0 ∧ ¬ s = 12)) with hz | hz | hz
    · have HZ := hid hz
      have y1 : (((s : Nat) : Int) == 0) = true := by simp; omega
      clear hz
      go_enter Tryz.func102, Tryz.ntmps102
      go_wp2_with (first
        | (go_at_call 110; first
          | (with_reducible refine (A1.out _ HS0.out HC0.out).mono ?_; rintro e w1 ⟨rfl, hS1, hC1, hK1⟩; have HS1 := hid hS1; have HC1 := hid hC1; have HK1 := hid hK1; have c01 := (HD0.out.kp2 hK1 (by omega)).c0; have c11 := (HD0.out.kp2 hK1 (by omega)).c1; have l01 := (HD0.out.kp2 hK1 (by omega)).lt; clear hS1 hC1 hK1)
          | (with_reducible refine (A2.out _ HS1.out HC1.out).mono ?_; rintro e w2 ⟨rfl, hS1, hC1, hK1⟩; have HS2 := hid hS1; have HC2 := hid hC1; have HK2 := hid hK1; have HK2' := hid (HK1.out.trans hK1); have c02 := (HD0.out.kp2 HK2'.out (by omega)).c0; have c12 := (HD0.out.kp2 HK2'.out (by omega)).c1; have l02 := (HD0.out.kp2 HK2'.out (by omega)).lt; clear hS1 hC1 hK1)
          | (with_reducible refine (A3.out _ HS2.out HC2.out).mono ?_; rintro e w3 ⟨rfl, hS1, hC1, hK1⟩; have HS3 := hid hS1; have HC3 := hid hC1; have HK3 := hid hK1; have HK3' := hid (HK2'.out.trans hK1); have c03 := (HD0.out.kp2 HK3'.out (by omega)).c0; have c13 := (HD0.out.kp2 HK3'.out (by omega)).c1; have l03 := (HD0.out.kp2 HK3'.out (by omega)).lt; clear hS1 hC1 hK1))
        | (go_at_call 111; refine (A4.out _ HS3.out HC3.out).mono ?_; rintro e w4 ⟨rfl, hS1, hC1, hK1⟩; have HSe := hid hS1; have HKe := hid (HK3'.out.trans hK1); have kk := hC1.c; have lk := hC1.lt; clear hS1 hC1 hK1))
      (go_ret2; refine ⟨hint1 HZ.out, HSe.out, ((Kp2.of (((KeptBut.refl _ _).al _).al _)).trans HKe.out).but (by simp)⟩)
    · have HZ := hid hz
      have y1 : (((s : Nat) : Int) == 0) = false := by simp; omega
      have y2 : (((s : Nat) : Int) == 12) = true := by simp; omega
      clear hz
      go_enter Tryz.func102, Tryz.ntmps102
      go_wp2_with (first
        | (go_at_call 110; first
          | (with_reducible refine (A1.out _ HS0.out HC0.out).mono ?_; rintro e w1 ⟨rfl, hS1, hC1, hK1⟩; have HS1 := hid hS1; have HC1 := hid hC1; have HK1 := hid hK1; have c01 := (HD0.out.kp2 hK1 (by omega)).c0; have c11 := (HD0.out.kp2 hK1 (by omega)).c1; have l01 := (HD0.out.kp2 hK1 (by omega)).lt; clear hS1 hC1 hK1)
          | (with_reducible refine (A2.out _ HS1.out HC1.out).mono ?_; rintro e w2 ⟨rfl, hS1, hC1, hK1⟩; have HS2 := hid hS1; have HC2 := hid hC1; have HK2 := hid hK1; have HK2' := hid (HK1.out.trans hK1); have c02 := (HD0.out.kp2 HK2'.out (by omega)).c0; have c12 := (HD0.out.kp2 HK2'.out (by omega)).c1; have l02 := (HD0.out.kp2 HK2'.out (by omega)).lt; clear hS1 hC1 hK1)
          | (with_reducible refine (A3.out _ HS2.out HC2.out).mono ?_; rintro e w3 ⟨rfl, hS1, hC1, hK1⟩; have HS3 := hid hS1; have HC3 := hid hC1; have HK3 := hid hK1; have HK3' := hid (HK2'.out.trans hK1); have c03 := (HD0.out.kp2 HK3'.out (by omega)).c0; have c13 := (HD0.out.kp2 HK3'.out (by omega)).c1; have l03 := (HD0.out.kp2 HK3'.out (by omega)).lt; clear hS1 hC1 hK1))
        | (go_at_call 111; refine (A4.out _ HS3.out HC3.out).mono ?_; rintro e w4 ⟨rfl, hS1, hC1, hK1⟩; have HSe := hid hS1; have HKe := hid (HK3'.out.trans hK1); have kk := hC1.c; have lk := hC1.lt; clear hS1 hC1 hK1))
      (go_ret2; refine ⟨hint2 HZ.out, HSe.out, ((Kp2.of (((KeptBut.refl _ _).al _).al _)).trans HKe.out).but (by simp)⟩)
    · have HZ := hid hz
      have y1 : (((s : Nat) : Int) == 0) = false := by simp; omega
      have y2 : (((s : Nat) : Int) == 12) = false := by simp; omega
      clear hz
      go_enter Tryz.func102, Tryz.ntmps102
      go_wp2_with (first
        | (go_at_call 110; first
          | (with_reducible refine (A1.out _ HS0.out HC0.out).mono ?_; rintro e w1 ⟨rfl, hS1, hC1, hK1⟩; have HS1 := hid hS1; have HC1 := hid hC1; have HK1 := hid hK1; have c01 := (HD0.out.kp2 hK1 (by omega)).c0; have c11 := (HD0.out.kp2 hK1 (by omega)).c1; have l01 := (HD0.out.kp2 hK1 (by omega)).lt; clear hS1 hC1 hK1)
          | (with_reducible refine (A2.out _ HS1.out HC1.out).mono ?_; rintro e w2 ⟨rfl, hS1, hC1, hK1⟩; have HS2 := hid hS1; have HC2 := hid hC1; have HK2 := hid hK1; have HK2' := hid (HK1.out.trans hK1); have c02 := (HD0.out.kp2 HK2'.out (by omega)).c0; have c12 := (HD0.out.kp2 HK2'.out (by omega)).c1; have l02 := (HD0.out.kp2 HK2'.out (by omega)).lt; clear hS1 hC1 hK1)
          | (with_reducible refine (A3.out _ HS2.out HC2.out).mono ?_; rintro e w3 ⟨rfl, hS1, hC1, hK1⟩; have HS3 := hid hS1; have HC3 := hid hC1; have HK3 := hid hK1; have HK3' := hid (HK2'.out.trans hK1); have c03 := (HD0.out.kp2 HK3'.out (by omega)).c0; have c13 := (HD0.out.kp2 HK3'.out (by omega)).c1; have l03 := (HD0.out.kp2 HK3'.out (by omega)).lt; clear hS1 hC1 hK1))
        | (go_at_call 111; refine (A4.out _ HS3.out HC3.out).mono ?_; rintro e w4 ⟨rfl, hS1, hC1, hK1⟩; have HSe := hid hS1; have HKe := hid (HK3'.out.trans hK1); have kk := hC1.c; have lk := hC1.lt; clear hS1 hC1 hK1))
      (go_ret2; refine ⟨hint0 HZ.out.1 HZ.out.2, HSe.out, ((Kp2.of (((KeptBut.refl _ _).al _).al _)).trans HKe.out).but (by simp)⟩)
  · rw [if_neg h50]
    obtain ⟨⟨m, s⟩, hr⟩ : ∃ r, Sort.median S.lt d (a + q * 1) (a + q * 2) (a + q * 3) 0 = r := ⟨_, rfl⟩
    have hml := med_lt (lt := S.lt) (d := d) (a := a + q * 1) (b := a + q * 2) (c := a + q * 3) (s := 0) (n := S.n) (by omega) (by omega) (by omega)
    have A1 := hid (hr ▸ median_any O (a + q * 1) (a + q * 2) (a + q * 3) (W.heap.size + 1) 0 d _ HS0.out HC0.out (by omega) (by omega) (by omega) (by omega) (by omega))
    rw [hr] at hml
    simp only [hr]
    rw [show (if s = 0 then Sort.Hint.increasing else if s = 12 then Sort.Hint.decreasing else Sort.Hint.unknown) = hintOf s from rfl]
    rw [show ((a + q * 1 : Nat) : Int) = (a : Int) + (q : Int) by push_cast; omega, show ((a + q * 2 : Nat) : Int) = (a : Int) + (q : Int) * 2 by push_cast; omega, show ((a + q * 3 : Nat) : Int) = (a : Int) + (q : Int) * 3 by push_cast; omega] at A1
    unfold Srt.dv at A1 ⊢
    unfold medPost at A1
    have c0 := HD0.out.c0
    have c1 := HD0.out.c1
    clear hr
    rcases (by omega : s = 0 ∨ s = 12 ∨ (¬ s = 0 ∧ ¬ s = 12)) with hz | hz | hz
    · have HZ := hid hz
      have y1 : (((s : Nat) : Int) == 0) = true := by simp; omega
      clear hz
      go_enter Tryz.func102, Tryz.ntmps102
      go_wp2_with (go_at_call 111; refine A1.out.mono ?_; rintro e w1 ⟨rfl, hS1, hC1, hK1⟩; have HSe := hid hS1; have HKe := hid hK1; have kk := hC1.c; have lk := hC1.lt; clear hS1 hC1 hK1)
      (go_ret2; refine ⟨hint1 HZ.out, HSe.out, ((Kp2.of (((KeptBut.refl _ _).al _).al _)).trans HKe.out).but (by simp)⟩)
    · have HZ := hid hz
      have y1 : (((s : Nat) : Int) == 0) = false := by simp; omega
      have y2 : (((s : Nat) : Int) == 12) = true := by simp; omega
      clear hz
      go_enter Tryz.func102, Tryz.ntmps102
      go_wp2_with (go_at_call 111; refine A1.out.mono ?_; rintro e w1 ⟨rfl, hS1, hC1, hK1⟩; have HSe := hid hS1; have HKe := hid hK1; have kk := hC1.c; have lk := hC1.lt; clear hS1 hC1 hK1)
      (go_ret2; refine ⟨hint2 HZ.out, HSe.out, ((Kp2.of (((KeptBut.refl _ _).al _).al _)).trans HKe.out).but (by simp)⟩)
    · have HZ := hid hz
      have y1 : (((s : Nat) : Int) == 0) = false := by simp; omega
      have y2 : (((s : Nat) : Int) == 12) = false := by simp; omega
      clear hz
      go_enter Tryz.func102, Tryz.ntmps102
      go_wp2_with (go_at_call 111; refine A1.out.mono ?_; rintro e w1 ⟨rfl, hS1, hC1, hK1⟩; have HSe := hid hS1; have HKe := hid hK1; have kk := hC1.c; have lk := hC1.lt; clear hS1 hC1 hK1)
      (go_ret2; refine ⟨hint0 HZ.out.1 HZ.out.2, HSe.out, ((Kp2.of (((KeptBut.refl _ _).al _).al _)).trans HKe.out).but (by simp)⟩)
end Go.Proofs.Qxb6500717aGreat
