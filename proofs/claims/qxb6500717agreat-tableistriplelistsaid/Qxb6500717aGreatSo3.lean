/-
  order2_func, median_func, medianAdjacent_func, choosePivot_func: the walks.
-/
import Derived.Test.Qxb6500717aGreatSo0
namespace Go.Proofs.Qxb6500717aGreat
open Go.RowKit
set_option linter.unusedSimpArgs false
set_option linter.unusedVariables false
set_option linter.unusedSectionVars false
variable {α : Type} [Inhabited α] {S : Srt α}
/-- The count of swaps, in a block of its own. -/
structure Srt.Cn (S : Srt α) (W : World) (C : Nat) (s : Nat) : Prop where
  c : W.cell? ⟨C, 0, none⟩ = some (.int .i64 (s))
  f : W.frozen? ⟨C, 0, none⟩ = false
  lt : C < W.heap.size
  ne : C ≠ S.blk
theorem Srt.Cn.kept {W W' : World} {C s : Nat} (h : S.Cn W C s) (hk : KeptBut S.blk W W') : S.Cn W' C s :=
  ⟨(World.cell?_of_block (hk.block _ h.lt h.ne)).trans h.c, (World.frozen?_of_block (hk.block _ h.lt h.ne)).trans h.f, Nat.lt_of_lt_of_le h.lt hk.size, h.ne⟩
theorem Srt.Cn.below {W W' : World} {C s : Nat} (h : S.Cn W C s) (hk : Below W.heap.size W W') : S.Cn W' C s :=
  ⟨(World.cell?_of_block (hk.block _ h.lt)).trans h.c, (World.frozen?_of_block (hk.block _ h.lt)).trans h.f, Nat.lt_of_lt_of_le h.lt hk.size, h.ne⟩
/-- Besides the row, only block C may have been written. -/
structure Kp2 (b C : Nat) (w w' : World) : Prop where
  os : w'.os = w.os
  tape : w'.tape = w.tape
  output : w'.output = w.output
  size : w.heap.size ≤ w'.heap.size
  block : ∀ k, k < w.heap.size → k ≠ b → k ≠ C → w'.heap[k]? = w.heap[k]?
theorem Kp2.of {b C : Nat} {w w' : World} (h : KeptBut b w w') : Kp2 b C w w' := ⟨h.os, h.tape, h.output, h.size, fun k h1 h2 _ => h.block k h1 h2⟩
theorem Kp2.trans {b C : Nat} {w w1 w2 : World} (h : Kp2 b C w w1) (k : Kp2 b C w1 w2) : Kp2 b C w w2 :=
  ⟨k.os.trans h.os, k.tape.trans h.tape, k.output.trans h.output, Nat.le_trans h.size k.size, fun i hi hb hc => (k.block i (Nat.lt_of_lt_of_le hi h.size) hb hc).trans (h.block i hi hb hc)⟩
theorem Kp2.set {b C : Nat} {w w1 : World} (h : Kp2 b C w w1) {o : Nat} (v : Value) : Kp2 b C w (w1.setCell ⟨C, o, none⟩ v) :=
  ⟨h.os, h.tape, h.output, by simpa [World.setCell] using h.size, fun k hk hb hc => (Below.heap_setCell _ _ _ _ (by simpa using hc)).trans (h.block k hk hb hc)⟩
theorem Srt.Dat.kp2 {W W' : World} {B C : Nat} (h : S.Dat W B) (hk : Kp2 S.blk C W W') (hne : B ≠ C) : S.Dat W' B :=
  ⟨(World.cell?_of_block (hk.block _ h.lt h.ne hne)).trans h.c0, (World.cell?_of_block (hk.block _ h.lt h.ne hne)).trans h.c1, Nat.lt_of_lt_of_le h.lt hk.size, h.ne⟩
/-- A new block written leaves the sort's state. -/
theorem Srt.St.setC {W : World} {d : Array α} (h : S.St W d) (O : S.Ok) {C : Nat} (hne : C ≠ S.blk) (hC : S.w0.heap.size ≤ C) (v : Value) : S.St (W.setCell ⟨C, 0, none⟩ v) d := by
  have hb : (W.setCell ⟨C, 0, none⟩ v).heap[S.blk]? = W.heap[S.blk]? := Below.heap_setCell _ _ _ _ (by simpa using fun e => hne e.symm)
  exact ⟨fun j hj => ⟨(World.cell?_of_block hb).trans (h.h j hj).1, (World.frozen?_of_block hb).trans (h.h j hj).2⟩, h.kb.set (Or.inr hC) v, h.sz⟩
theorem Srt.Cn.set {W : World} {C s : Nat} (h : S.Cn W C s) (t : Nat) : S.Cn (W.setCell ⟨C, 0, none⟩ (.int .i64 (t))) C t :=
  ⟨World.cell?_setCell_same _ _ _ h.c, by simpa using h.f, by simpa using h.lt, h.ne⟩
def ordPost (S : Srt α) (d : Array α) (C : Nat) (r : Nat × Nat × Nat) (W : World) (e : Ending) (w' : World) : Prop :=
  e = .returned (.tuple #[.int .i64 (r.1), .int .i64 (r.2.1)]) ∧ S.St w' d ∧ S.Cn w' C r.2.2 ∧ Kp2 S.blk C W w'
set_option maxRecDepth 20000 in
set_option maxHeartbeats 4000000 in
theorem order2_any (O : S.Ok) (a b C s : Nat) (d : Array α) (W : World) (h : S.St W d) (hC : S.Cn W C s) (hCw : S.w0.heap.size ≤ C) (ha : a < S.n) (hb : b < S.n) (hs : s ≤ 1000) :
    Calls Tryz.prog 112 #[S.dv, .int .i64 (a), .int .i64 (b), .pointer (some ⟨C, 0, none⟩)] W (ordPost S d C (Sort.order2 S.lt d a b s) W) := by
  have eg := O.eg
  have HO := hid O
  have HD := hid (Srt.Dat.new h O 120)
  have c0 := HD.out.c0
  have HS := hid (h.al O (.cells #[.func (.func S.g) #[] S.lb, .func (.func S.sf) #[] S.sb] 120))
  have HC := hid (hC.below ((Below.rf W).al (.cells #[.func (.func S.g) #[] S.lb, .func (.func S.sf) #[] S.sb] 120)))
  unfold Srt.dv
  cases hlv : S.lt d[b]! d[a]! with
  | true =>
    have HL := hid (O.lessI _ _ HS.out (((b : Nat) : Int)) (((a : Nat) : Int)) b a true rfl rfl hb ha hlv)
    have hr : Sort.order2 S.lt d a b s = (b, a, s + 1) := by unfold Sort.order2; rw [if_pos hlv]
    rw [hr]
    clear h hC hlv hr
    go_enter Tryz.func112, Tryz.ntmps112
    go_wp2_with (go_at_fn S.g; refine HL.out.mono ?_; rintro e w1 ⟨rfl, hS1, hK1⟩; have HS3 := hid hS1; have HK3 := hid hK1; have HC3 := hid (HC.out.kept hK1); have k0 := (HC.out.kept hK1).c; have f0 := (HC.out.kept hK1).f; have l0 := (HC.out.kept hK1).lt; clear hS1 hK1)
    go_ret2
    exact ⟨rfl, HS3.out.setC HO.out HC3.out.ne hCw _, HC3.out.set (s + 1), (((Kp2.of ((KeptBut.refl _ _).al _)).trans (Kp2.of HK3.out)).set _)⟩
  | false =>
    have HL := hid (O.lessI _ _ HS.out (((b : Nat) : Int)) (((a : Nat) : Int)) b a false rfl rfl hb ha hlv)
    have hr : Sort.order2 S.lt d a b s = (a, b, s) := by unfold Sort.order2; rw [if_neg (by simp [hlv])]
    rw [hr]
    clear h hC hlv hr
    go_enter Tryz.func112, Tryz.ntmps112
    go_wp2_with (go_at_fn S.g; refine HL.out.mono ?_; rintro e w1 ⟨rfl, hS1, hK1⟩; have HS3 := hid hS1; have HK3 := hid hK1; have HC3 := hid (HC.out.kept hK1); clear hS1 hK1)
    go_ret2
    exact ⟨rfl, HS3.out, HC3.out, ((Kp2.of ((KeptBut.refl _ _).al _)).trans (Kp2.of HK3.out))⟩
theorem ord_lt {lt : α → α → Bool} {d : Array α} {a b s x y t n : Nat} (h : Sort.order2 lt d a b s = (x, y, t)) (ha : a < n) (hb : b < n) : x < n ∧ y < n ∧ t ≤ s + 1 := by
  unfold Sort.order2 at h
  split at h
  · simp only [Prod.mk.injEq] at h; omega
  · simp only [Prod.mk.injEq] at h; omega
def medPost (S : Srt α) (d : Array α) (C : Nat) (r : Nat × Nat) (W : World) (e : Ending) (w' : World) : Prop :=
  e = .returned (.int .i64 (r.1)) ∧ S.St w' d ∧ S.Cn w' C r.2 ∧ Kp2 S.blk C W w'
set_option maxRecDepth 20000 in
set_option maxHeartbeats 4000000 in
theorem median_any (O : S.Ok) (a b c C s : Nat) (d : Array α) (W : World) (h : S.St W d) (hC : S.Cn W C s) (hCw : S.w0.heap.size ≤ C) (ha : a < S.n) (hb : b < S.n) (hc : c < S.n) (hs : s ≤ 900) :
    Calls Tryz.prog 111 #[S.dv, .int .i64 (a), .int .i64 (b), .int .i64 (c), .pointer (some ⟨C, 0, none⟩)] W (medPost S d C (Sort.median S.lt d a b c s) W) := by
  have HO := hid O
  have HD := hid (Srt.Dat.new h O 120)
  have c0 := HD.out.c0
  have c1 := HD.out.c1
  have HS := hid (h.al O (.cells #[.func (.func S.g) #[] S.lb, .func (.func S.sf) #[] S.sb] 120))
  have HC := hid (hC.below ((Below.rf W).al (.cells #[.func (.func S.g) #[] S.lb, .func (.func S.sf) #[] S.sb] 120)))
  have hCl := hC.lt
  unfold Sort.median
  obtain ⟨⟨x1, y1, s1⟩, hr1⟩ : ∃ r, Sort.order2 S.lt d a b s = r := ⟨_, rfl⟩
  simp only [hr1]
  obtain ⟨⟨x2, y2, s2⟩, hr2⟩ : ∃ r, Sort.order2 S.lt d y1 c s1 = r := ⟨_, rfl⟩
  simp only [hr2]
  obtain ⟨⟨x3, y3, s3⟩, hr3⟩ : ∃ r, Sort.order2 S.lt d x1 x2 s2 = r := ⟨_, rfl⟩
  simp only [hr3]
  have b1 := ord_lt hr1 ha hb
  have b2 := ord_lt hr2 b1.2.1 hc
  have b3 := ord_lt hr3 b1.1 b2.1
  have A1 := hid (fun w' h' hC' => hr1 ▸ order2_any O a b C s d w' h' hC' hCw ha hb (by omega))
  have A2 := hid (fun w' h' hC' => hr2 ▸ order2_any O y1 c C s1 d w' h' hC' hCw b1.2.1 hc (by omega))
  have A3 := hid (fun w' h' hC' => hr3 ▸ order2_any O x1 x2 C s2 d w' h' hC' hCw b1.1 b2.1 (by omega))
  unfold Srt.dv at A1 A2 A3 ⊢
  unfold ordPost at A1 A2 A3
  clear h hC hr1 hr2 hr3
  go_enter Tryz.func111, Tryz.ntmps111
  go_wp2_with (go_at_call 112; first
    | (with_reducible refine (A1.out _ HS.out HC.out).mono ?_; rintro e w1 ⟨rfl, hS1, hC1, hK1⟩; have HS1 := hid hS1; have HC1 := hid hC1; have HK1 := hid hK1; have e0 := (HD.out.kp2 hK1 (by omega)).c0; have e1 := (HD.out.kp2 hK1 (by omega)).c1; have l1 := (HD.out.kp2 hK1 (by omega)).lt; clear hS1 hC1 hK1)
    | (with_reducible refine (A2.out _ HS1.out HC1.out).mono ?_; rintro e w2 ⟨rfl, hS2, hC2, hK2⟩; have HS2 := hid hS2; have HC2 := hid hC2; have HK2 := hid (HK1.out.trans hK2); have g0 := (HD.out.kp2 HK2.out (by omega)).c0; have g1 := (HD.out.kp2 HK2.out (by omega)).c1; have l2 := (HD.out.kp2 HK2.out (by omega)).lt; clear hS2 hC2 hK2)
    | (with_reducible refine (A3.out _ HS2.out HC2.out).mono ?_; rintro e w3 ⟨rfl, hS3, hC3, hK3⟩; have HS3 := hid hS3; have HC3 := hid hC3; have HK3 := hid (HK2.out.trans hK3); clear hS3 hC3 hK3))
  go_ret
  exact ⟨rfl, HS3.out, HC3.out, (Kp2.of ((KeptBut.refl _ _).al _)).trans HK3.out⟩
theorem med_lt {lt : α → α → Bool} {d : Array α} {a b c s n : Nat} (ha : a < n) (hb : b < n) (hc : c < n) : (Sort.median lt d a b c s).1 < n ∧ (Sort.median lt d a b c s).2 ≤ s + 3 := by
  unfold Sort.median
  obtain ⟨⟨x1, y1, s1⟩, hr1⟩ : ∃ r, Sort.order2 lt d a b s = r := ⟨_, rfl⟩
  simp only [hr1]
  obtain ⟨⟨x2, y2, s2⟩, hr2⟩ : ∃ r, Sort.order2 lt d y1 c s1 = r := ⟨_, rfl⟩
  simp only [hr2]
  obtain ⟨⟨x3, y3, s3⟩, hr3⟩ : ∃ r, Sort.order2 lt d x1 x2 s2 = r := ⟨_, rfl⟩
  simp only [hr3]
  have b1 := ord_lt hr1 ha hb
  have b2 := ord_lt hr2 b1.2.1 hc
  have b3 := ord_lt hr3 b1.1 b2.1
  omega
theorem medAdj_any (O : S.Ok) (a C s : Nat) (d : Array α) (W : World) (h : S.St W d) (hC : S.Cn W C s) (hCw : S.w0.heap.size ≤ C) (ha1 : 1 ≤ a) (ha : a + 1 < S.n) (hs : s ≤ 900) :
    Calls Tryz.prog 110 #[S.dv, .int .i64 (a), .pointer (some ⟨C, 0, none⟩)] W (medPost S d C (Sort.medianAdjacent S.lt d a s) W) := by
  have hnb := O.nb
  have HD := hid (Srt.Dat.new h O 120)
  have c0 := HD.out.c0
  have c1 := HD.out.c1
  unfold Sort.medianAdjacent
  have A1 := hid (median_any O (a - 1) a (a + 1) C s d _ (h.al O (.cells #[.func (.func S.g) #[] S.lb, .func (.func S.sf) #[] S.sb] 120)) (hC.below ((Below.rf W).al (.cells #[.func (.func S.g) #[] S.lb, .func (.func S.sf) #[] S.sb] 120))) hCw (by omega) (by omega) (by omega) hs)
  rw [show ((a - 1 : Nat) : Int) = (a : Int) - 1 by omega, show ((a + 1 : Nat) : Int) = (a : Int) + 1 by omega] at A1
  generalize Sort.median S.lt d (a - 1) a (a + 1) s = r at *
  unfold Srt.dv at A1 ⊢
  unfold medPost at A1
  clear h hC
  go_enter Tryz.func110, Tryz.ntmps110
  go_wp2_with (go_at_call 111; refine A1.out.mono ?_; rintro e w1 ⟨rfl, hS1, hC1, hK1⟩; have HS1 := hid hS1; have HC1 := hid hC1; have HK1 := hid hK1; clear hS1 hC1 hK1)
  go_ret
  exact ⟨rfl, HS1.out, HC1.out, (Kp2.of ((KeptBut.refl _ _).al _)).trans HK1.out⟩
def hintN : Sort.Hint → Int
  | .unknown => 0
  | .increasing => 1
  | .decreasing => 2
def cpPost (S : Srt α) (d : Array α) (r : Nat × Sort.Hint) (W : World) (e : Ending) (w' : World) : Prop :=
  e = .returned (.tuple #[.int .i64 (r.1), .int .i64 (hintN r.2)]) ∧ S.St w' d ∧ KeptBut S.blk W w'
end Go.Proofs.Qxb6500717aGreat
