/-
  'do', exactly: the desk, what it leaves, its small functions.
-/
import Derived.Test.Qxb6500717aGreatDo2
import Derived.Test.Qxb6500717aGreatDo5
import Derived.Test.Qxb6500717aGreatHx4
import Derived.Test.Qxb6500717aGreatSt0
namespace Go.Proofs.Qxb6500717aGreat
open Go.RowKit
set_option linter.unusedSimpArgs false
set_option linter.unusedVariables false
set_option maxRecDepth 20000
set_option maxHeartbeats 4000000

/-- The desk. -/
structure DkS where
  O : Option TabS
  L : List Ent
  nx : Nat
  S : MkS
structure DeskX (w : World) (lab : Nat → Nat) (d k : Nat) (D : DkS) : Prop where
  ex : ∃ (tv : Value) (N : MkM), DX w lab d tv (.pointer (some ⟨N.m, 0, none⟩)) D.L D.nx ∧ MkAt w lab N D.S ∧ TabO w lab tv D.O
  hl : ∀ j, w.heap.size ≤ j → lab j = 0
  hp : isHeap D.L
  bk : D.L.length ≤ k ∧ D.nx ≤ k ∧ D.S.cn ≤ k

section
variable {w w' w1 w5 : World} {lab lab' lab5 : Nat → Nat} {d nx : Nat} {tv mv : Value} {L : List Ent} {A : Nat → Prop}
theorem DX.rl (h : DX w lab d tv mv L nx) (hl : ∀ j, j < w.heap.size → tagL (lab j) → lab' j = lab j) : DX w lab' d tv mv L nx := by
  refine ⟨(hl d h.lt (by rw [h.ld]; unfold tagL; omega)).trans h.ld, h.lt, h.c0, h.c2, h.c3, h.fz, ?_⟩
  obtain ⟨ao, cap, h1, h5, h6⟩ := h.hp
  refine ⟨ao, cap, h1, h5, ?_⟩
  rcases h6 with h6 | ⟨b, e1, e2, e3, e4⟩
  · exact Or.inl h6
  · exact Or.inr ⟨b, e1, (hl b e4.lt (by rw [e2]; unfold tagL; omega)).trans e2, e3, e4⟩
theorem MkAt.rl {N : MkM} {S : MkS} (h : MkAt w lab N S) (hl : ∀ j, j < w.heap.size → tagL (lab j) → lab' j = lab j) : MkAt w lab' N S := by
  have t : ∀ {j x : Nat}, lab j = x → 3 ≤ x → x ≤ 5 → j < w.heap.size → lab' j = x := fun e h1 h2 hj => (hl _ hj (by rw [e]; unfold tagL; omega)).trans e
  exact { h with lm := t h.lm (by omega) (by omega) h.bm.lt, ls := t h.ls (by omega) (by omega) h.bs.lt, lv := t h.lv (by omega) (by omega) h.bv.lt }
theorem TabO.rl {O : Option TabS} (h : TabO w lab tv O) (hl : ∀ j, j < w.heap.size → tagL (lab j) → lab' j = lab j) : TabO w lab' tv O := by
  cases O with
  | none => exact h
  | some T =>
    obtain ⟨M, h1, h2, h3⟩ := h
    exact ⟨M, h1, h2.rl (fun j hj ht => hl j hj (by unfold tabL at ht; unfold tagL; omega)), h3⟩
theorem DX.carry (h : DX w lab d tv mv L nx) (hB : Below w.heap.size w w1) (hk : KeptL lab A w1 w5) (hl5 : ∀ j, j < w1.heap.size → lab5 j = lab j) (h1 : ¬ A 1) (h2 : ¬ A 2) : DX w5 lab5 d tv mv L nx :=
  (h.below hB).of hk.size hl5 (fun j hj hl => hk.block j hj (by rcases hl with hl | hl <;> rw [hl] <;> assumption))
theorem MkAt.carry {N : MkM} {S : MkS} (h : MkAt w lab N S) (hB : Below w.heap.size w w1) (hk : KeptL lab A w1 w5) (hl5 : ∀ j, j < w1.heap.size → lab5 j = lab j) (h1 : ¬ A 3) (h2 : ¬ A 4) (h3 : ¬ A 5) : MkAt w5 lab5 N S :=
  (h.below hB).of hk.size hl5 (fun j hj hl => hk.block j hj (by rcases hl with hl | hl | hl <;> rw [hl] <;> assumption))
theorem TabO.carry {O : Option TabS} (h : TabO w lab tv O) (hB : Below w.heap.size w w1) (hk : KeptL lab A w1 w5) (hl5 : ∀ j, j < w1.heap.size → lab5 j = lab j) (hA : ∀ x, tabL x → ¬ A x) : TabO w5 lab5 tv O := by
  have hs := hB.size
  cases O with
  | none => exact h
  | some T =>
    obtain ⟨M, h1, h2, h3⟩ := h
    exact ⟨M, h1, (h2.below hB).of hk.size hl5 (fun j hj ht => hk.block j hj (hA _ ht)), h3⟩
end
def doXPost (lab : Nat → Nat) (d k : Nat) (X : (Int × List Int) × DkS) (w : World) (e : Ending) (w' : World) : Prop :=
  ∃ (v : Value) (lab' : Nat → Nat), e = .returned (.agg #[.int .u8 X.1.1, v]) ∧ IntsAt w' w.heap.size v X.1.2 ∧ DeskX w' lab' d (k + 1) X.2 ∧ (∀ j, j < w.heap.size → lab' j = lab j) ∧ (∀ j, w.heap.size ≤ j → lab' j < 26) ∧ KeptL lab tagL w w'
def clampL (lab lab6 : Nat → Nat) (n n' : Nat) (j : Nat) : Nat := if j < n then lab j else if j < n' ∧ 1 ≤ lab6 j ∧ lab6 j < 26 then lab6 j else 0

theorem doX_fin {w w1 w5 w6 : World} {lab lab5 : Nat → Nat} {d k : Nat} {tv : Value} {N : MkM} {D' : DkS} {A : Nat → Prop} {c : Int} {vals : List Int} {v : Value}
    (HL : ∀ j, w.heap.size ≤ j → lab j = 0) (hB : Below w.heap.size w w1) (hs : w.heap.size + 1 < w1.heap.size) (hk : KeptL lab A w1 w5) (hA : ∀ x, A x → tagL x) (hl5 : ∀ j, j < w1.heap.size → lab5 j = lab j)
    (hD : DX w5 lab5 d tv (.pointer (some ⟨N.m, 0, none⟩)) D'.L D'.nx) (hM : MkAt w5 lab5 N D'.S) (hO : TabO w5 lab5 tv D'.O) (hkb : KeptBut (w.heap.size + 1) w5 w6) (hp : isHeap D'.L) (hbk : D'.L.length ≤ k + 1 ∧ D'.nx ≤ k + 1 ∧ D'.S.cn ≤ k + 1) (hv : IntsAt w6 w.heap.size v vals) :
    doXPost lab d k ((c, vals), D') w (.returned (.agg #[.int .u8 c, v])) w6 := by
  have s1 := hB.size
  have s5 := hk.size
  have s6 := hkb.size
  have hz : lab5 (w.heap.size + 1) = 0 := by rw [hl5 _ hs]; exact HL _ (by omega)
  have ne : ∀ {j : Nat}, tagL (lab5 j) → j ≠ w.heap.size + 1 := fun h e => by rw [e, hz] at h; unfold tagL at h; omega
  have cl : ∀ j, j < w6.heap.size → tagL (lab5 j) → clampL lab lab5 w.heap.size w6.heap.size j = lab5 j := fun j hj ht => by
    unfold clampL
    by_cases h1 : j < w.heap.size
    · rw [if_pos h1]; exact (hl5 j (by omega)).symm
    · rw [if_neg h1, if_pos ⟨hj, ht⟩]
  have D6 := hD.of (lab' := lab5) s6 (fun _ _ => rfl) (fun j hj hl => hkb.block j hj (ne (by unfold tagL; omega)))
  have M6 := hM.of (lab' := lab5) s6 (fun _ _ => rfl) (fun j hj hl => hkb.block j hj (ne (by unfold tagL; omega)))
  have O6 := hO.of (lab' := lab5) s6 (fun _ _ => rfl) (fun j hj hl => hkb.block j hj (ne hl))
  refine ⟨v, clampL lab lab5 w.heap.size w6.heap.size, rfl, hv, ⟨⟨tv, N, D6.rl cl, M6.rl cl, O6.rl cl⟩, fun j hj => ?_, hp, hbk⟩, fun j hj => if_pos hj, fun j hj => ?_, ?_⟩
  · unfold clampL; rw [if_neg (by omega), if_neg (by omega)]
  · unfold clampL
    rw [if_neg (by omega)]
    split
    · omega
    · omega
  · refine ⟨?_, ?_, ?_, by omega, fun j hj hn => ?_⟩
    · rw [hkb.os, hk.os, hB.os]
    · rw [hkb.tape, hk.tape, hB.tape]
    · rw [hkb.output, hk.output, hB.output]
    · rw [hkb.block j (by omega) (by omega), hk.block j (by omega) (fun h => hn (hA _ h)), hB.block j hj]

/-! small functions -/
def ansB (c : Int) (vals : List Int) (w : World) (e : Ending) (w' : World) : Prop := (∃ v, e = .returned (.agg #[.int .u8 c, v]) ∧ IntsAt w' w.heap.size v vals) ∧ Below w.heap.size w w'
def flg (b : Bool) : Int := if b then 1 else 0
theorem flagX (b : Bool) (w : World) : Calls Tryz.prog 35 #[.bool b] w (ansB 0 [flg b] w) := by
  cases b with
  | true =>
    show Calls Tryz.prog 35 #[.bool true] w (ansB 0 [1] w)
    go_enter Tryz.func35, Tryz.ntmps35
    go_wp2_with (go_at_call 15; refine (ok_any _ ⟨_, _, _, rfl⟩ _).mono ?_; rintro e w' ⟨rfl, z9, rfl⟩)
    refine bodyPost_ret (v := .agg #[.int .u8 0, .slice (some ⟨w.heap.size + 1, 0, none⟩) 1 1]) (by simp [results, Tryz.results35, go_sem, ↓IntWalk.iteOmega]) rfl ?_
    exact ⟨⟨_, rfl, (IntsAt.one (by first | omega | (simp <;> omega)) (by simp <;> omega) (by simp [go_sem, ↓IntWalk.iteOmega]))⟩, by (repeat (first | with_reducible exact Below.rf _ | with_reducible exact World.below_ext _ _ | with_reducible refine Below.ex ?_ _ | with_reducible refine Below.al ?_ _ | with_reducible refine Below.setCell ?_ (by simp) _ | with_reducible refine Below.drew ?_))⟩
  | false =>
    show Calls Tryz.prog 35 #[.bool false] w (ansB 0 [0] w)
    go_enter Tryz.func35, Tryz.ntmps35
    go_wp2_with (go_at_call 15; refine (ok_any _ ⟨_, _, _, rfl⟩ _).mono ?_; rintro e w' ⟨rfl, z9, rfl⟩)
    refine bodyPost_ret (v := .agg #[.int .u8 0, .slice (some ⟨w.heap.size + 1, 0, none⟩) 1 1]) (by simp [results, Tryz.results35, go_sem, ↓IntWalk.iteOmega]) rfl ?_
    exact ⟨⟨_, rfl, (IntsAt.one (by first | omega | (simp <;> omega)) (by simp <;> omega) (by simp [go_sem, ↓IntWalk.iteOmega]))⟩, by (repeat (first | with_reducible exact Below.rf _ | with_reducible exact World.below_ext _ _ | with_reducible refine Below.ex ?_ _ | with_reducible refine Below.al ?_ _ | with_reducible refine Below.setCell ?_ (by simp) _ | with_reducible refine Below.drew ?_))⟩
def remV (c n : Int) : List Int := if c = 0 then [n] else []
theorem removedX (n : Int) (c : Int) (w : World) : Calls Tryz.prog 30 #[.int .i64 (n), .int .u8 c] w (ansB c (remV c n) w) := by
  unfold remV
  by_cases hc : c = 0
  · subst hc
    rw [if_pos rfl]
    go_enter Tryz.func30, Tryz.ntmps30
    go_wp2_with (go_at_call 15; refine (ok_any _ ⟨_, _, _, rfl⟩ _).mono ?_; rintro e w' ⟨rfl, z9, rfl⟩)
    refine bodyPost_ret (v := .agg #[.int .u8 0, .slice (some ⟨w.heap.size + 1, 0, none⟩) 1 1]) (by simp [results, Tryz.results30, go_sem, ↓IntWalk.iteOmega]) rfl ?_
    exact ⟨⟨_, rfl, (IntsAt.one (by first | omega | (simp <;> omega)) (by simp <;> omega) (by simp [go_sem, ↓IntWalk.iteOmega]))⟩, by (repeat (first | with_reducible exact Below.rf _ | with_reducible exact World.below_ext _ _ | with_reducible refine Below.ex ?_ _ | with_reducible refine Below.al ?_ _ | with_reducible refine Below.setCell ?_ (by simp) _ | with_reducible refine Below.drew ?_))⟩
  · rw [if_neg hc]
    have b1 : (c == 0) = false := by simpa using hc
    have b2 : (c != 0) = true := by simpa using hc
    clear hc
    go_enter Tryz.func30, Tryz.ntmps30
    go_wp2
    refine bodyPost_ret (v := .agg #[.int .u8 c, .slice none 0 0]) (by simp [results, Tryz.results30, go_sem, ↓IntWalk.iteOmega]) rfl ?_
    exact ⟨⟨_, rfl, IntsAt.nil _ _⟩, by (repeat (first | with_reducible exact Below.rf _ | with_reducible exact World.below_ext _ _ | with_reducible refine Below.ex ?_ _ | with_reducible refine Below.al ?_ _ | with_reducible refine Below.setCell ?_ (by simp) _ | with_reducible refine Below.drew ?_))⟩
theorem itemX (a b c : Int) (f : Bool) (w : World) : Calls Tryz.prog 16 #[.agg #[.int .i64 (a), .int .i64 (b), .int .i64 (c)], .bool f] w (ansB (if f then 0 else 9) (if f then [a, b, c] else []) w) := by
  cases f with
  | true =>
    simp only [if_true]
    go_enter Tryz.func16, Tryz.ntmps16
    go_wp2_with (go_at_call 15; refine (ok_any _ ⟨_, _, _, rfl⟩ _).mono ?_; rintro e w' ⟨rfl, z9, rfl⟩)
    refine bodyPost_ret (v := .agg #[.int .u8 0, .slice (some ⟨w.heap.size + 1 + 1, 0, none⟩) 3 3]) (by simp [results, Tryz.results16, go_sem, ↓IntWalk.iteOmega]) rfl ?_
    exact ⟨⟨_, rfl, IntsAt.three (by omega) (by simp <;> omega) (by simp [go_sem, ↓IntWalk.iteOmega]) (by simp [go_sem, ↓IntWalk.iteOmega]) (by simp [go_sem, ↓IntWalk.iteOmega])⟩, by (repeat (first | with_reducible exact Below.rf _ | with_reducible exact World.below_ext _ _ | with_reducible refine Below.ex ?_ _ | with_reducible refine Below.al ?_ _ | with_reducible refine Below.setCell ?_ (by simp) _ | with_reducible refine Below.drew ?_))⟩
  | false =>
    simp only [Bool.false_eq_true, if_false]
    go_enter Tryz.func16, Tryz.ntmps16
    go_wp2
    refine bodyPost_ret (v := .agg #[.int .u8 9, .slice none 0 0]) (by simp [results, Tryz.results16, go_sem, ↓IntWalk.iteOmega]) rfl ?_
    exact ⟨⟨_, rfl, IntsAt.nil _ _⟩, by (repeat (first | with_reducible exact Below.rf _ | with_reducible exact World.below_ext _ _ | with_reducible refine Below.ex ?_ _ | with_reducible refine Below.al ?_ _ | with_reducible refine Below.setCell ?_ (by simp) _ | with_reducible refine Below.drew ?_))⟩
end Go.Proofs.Qxb6500717aGreat
