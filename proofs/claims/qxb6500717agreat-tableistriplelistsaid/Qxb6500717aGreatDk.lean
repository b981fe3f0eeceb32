/-
  The desk in memory; its small functions.
-/
import Derived.Test.Qxb6500717aGreatHp3
import Derived.Test.Qxb6500717aGreatNew
import Derived.Test.Qxb6500717aGreatRem
import Derived.Test.Qxb6500717aGreatQuery2
namespace Go.Proofs.Qxb6500717aGreat
open Go.RowKit
set_option linter.unusedSimpArgs false
set_option linter.unusedVariables false

section
variable {w w' : World} {lab lab' : Nat → Nat}
theorem TAt.of {M : TabM} {T : TabS} (h : TAt w lab M T) (hs : w.heap.size ≤ w'.heap.size) (hl : ∀ j, j < w.heap.size → lab' j = lab j) (hb : ∀ j, j < w.heap.size → tabL (lab j) → w'.heap[j]? = w.heap[j]?) : TAt w' lab' M T := by
  have hnr := h.bd.nr
  have tl : ∀ {x : Nat}, 6 ≤ x → x < 26 → tabL x := fun h1 h2 => ⟨h1, h2⟩
  refine { h with
    bt := h.bt.of_block hs (hb _ h.bt.lt (by rw [h.lt]; exact tl (by omega) (by omega))), bg := h.bg.of_block hs (hb _ h.bg.lt (by rw [h.lg]; exact tl (by omega) (by omega))),
    bp := h.bp.of_block hs (hb _ h.bp.lt (by rw [h.lp]; exact tl (by omega) (by omega))), bpr := fun r hr => (h.bpr r hr).of_block hs (hb _ (h.bpr r hr).lt (by rw [h.lpr r hr]; exact tl (by omega) (by omega))),
    bs := h.bs.of_block hs (hb _ h.bs.lt (by rw [h.ls]; exact tl (by omega) (by omega))), bsr := fun r hr => ((h.bsr r hr).relab hl).of hs (fun b hb2 e => hb b hb2 (by rw [← hl b hb2, e]; exact tl (by omega) (by omega))),
    lt := (hl _ h.bt.lt).trans h.lt, lg := (hl _ h.bg.lt).trans h.lg, lp := (hl _ h.bp.lt).trans h.lp, ls := (hl _ h.bs.lt).trans h.ls, lpr := fun r hr => (hl _ (h.bpr r hr).lt).trans (h.lpr r hr) }
theorem TAt.keptL {A : Nat → Prop} {M : TabM} {T : TabS} (h : TAt w lab M T) (hk : KeptL lab A w w') (hA : ∀ x, tabL x → ¬ A x) : TAt w' lab M T :=
  h.of hk.size (fun _ _ => rfl) (fun j hj hl => hk.block j hj (hA _ hl))
theorem KeptL.setF {A : Nat → Prop} {w1 : World} (h : KeptL lab A w w1) {b i : Nat} (hb : w.heap.size ≤ b) (v : Value) : KeptL lab A w (w1.setCell ⟨b, i, none⟩ v) :=
  ⟨h.os, h.tape, h.output, by simpa using h.size, fun j hj hn => by rw [Below.heap_setCell _ _ _ _ (by show j ≠ b; omega)]; exact h.block j hj hn⟩
end

/-- All labels that the desk gives. -/
def tagL (x : Nat) : Prop := 1 ≤ x ∧ x < 26
/-- The table behind the desk's pointer, if there is one. -/
def TabO (w : World) (lab : Nat → Nat) (tv : Value) : Option TabS → Prop
  | none => tv = .pointer none
  | some T => ∃ M : TabM, tv = .pointer (some ⟨M.t, 0, none⟩) ∧ TAt w lab M T ∧ Con T
structure Desk (w : World) (lab : Nat → Nat) (d k : Nat) (O : Option TabS) : Prop where
  ex : ∃ (tv : Value) (N : MkM) (S : MkS), DAt w lab d tv (.pointer (some ⟨N.m, 0, none⟩)) k ∧ MkAt w lab N S ∧ S.cn ≤ k ∧ TabO w lab tv O
  hl : ∀ j, w.heap.size ≤ j → lab j = 0

section
variable {w w' : World} {lab lab' : Nat → Nat} {d k : Nat} {O : Option TabS} {tv : Value}
theorem TabO.of (h : TabO w lab tv O) (hs : w.heap.size ≤ w'.heap.size) (hl : ∀ j, j < w.heap.size → lab' j = lab j) (hb : ∀ j, j < w.heap.size → tagL (lab j) → w'.heap[j]? = w.heap[j]?) : TabO w' lab' tv O := by
  cases O with
  | none => exact h
  | some T =>
    obtain ⟨M, h1, h2, h3⟩ := h
    exact ⟨M, h1, h2.of hs hl (fun j hj ht => hb j hj (by unfold tabL at ht; unfold tagL; omega)), h3⟩
/-- From facts under some labels to a desk. -/
theorem Desk.make {N : MkM} {S : MkS} (h1 : DAt w lab d tv (.pointer (some ⟨N.m, 0, none⟩)) k) (h2 : MkAt w lab N S) (h3 : S.cn ≤ k) (h4 : TabO w lab tv O) : Desk w (fun j => if j < w.heap.size then lab j else 0) d k O :=
  ⟨⟨tv, N, S, h1.of (Nat.le_refl _) (fun j hj => if_pos hj) (fun _ _ _ => rfl), h2.of (Nat.le_refl _) (fun j hj => if_pos hj) (fun _ _ _ => rfl), h3, h4.of (Nat.le_refl _) (fun j hj => if_pos hj) (fun _ _ _ => rfl)⟩, fun j hj => if_neg (by omega)⟩
theorem Desk.of (h : Desk w lab d k O) (hs : w.heap.size ≤ w'.heap.size) (hb : ∀ j, j < w.heap.size → tagL (lab j) → w'.heap[j]? = w.heap[j]?) : Desk w' lab d k O := by
  obtain ⟨tv, N, S, h1, h2, h3, h4⟩ := h.ex
  refine ⟨⟨tv, N, S, h1.of hs (fun _ _ => rfl) (fun j hj hl => hb j hj (by unfold tagL; omega)), h2.of hs (fun _ _ => rfl) (fun j hj hl => hb j hj (by unfold tagL; omega)), h3, h4.of hs (fun _ _ => rfl) hb⟩, fun j hj => h.hl j (by omega)⟩
theorem Desk.below (h : Desk w lab d k O) (hb : Below w.heap.size w w') : Desk w' lab d k O := h.of hb.size (fun j hj _ => hb.block j hj)
end

/-- Is it a slice? -/
def isSl : Value → Bool
  | .slice _ _ _ => true
  | _ => false
theorem isSl_ex {v : Value} (h : isSl v = true) : ∃ ao n cap, v = .slice ao n cap := by
  cases v <;> first | exact ⟨_, _, _, rfl⟩ | cases h
/-- What 'do' leaves. -/
def doPost (lab : Nat → Nat) (d k : Nat) (C : Int → Prop) (O' : Option TabS) (w : World) (e : Ending) (w' : World) : Prop :=
  ∃ (c : Int) (v : Value) (lab' : Nat → Nat), e = .returned (.agg #[.int .u8 c, v]) ∧ isSl v = true ∧ C c ∧ Desk w' lab' d (k + 1) O' ∧ (∀ j, j < w.heap.size → lab' j = lab j) ∧ KeptL lab tagL w w'

theorem doPost.make {lab lab' : Nat → Nat} {d k : Nat} {C : Int → Prop} {O' : Option TabS} {w w' : World} {c : Int} {v tv : Value} {N : MkM} {S : MkS} (hc : C c) (h1 : DAt w' lab' d tv (.pointer (some ⟨N.m, 0, none⟩)) (k + 1)) (h2 : MkAt w' lab' N S) (h3 : S.cn ≤ k + 1) (h4 : TabO w' lab' tv O')
    (h5 : ∀ j, j < w.heap.size → lab' j = lab j) (h6 : KeptL lab tagL w w') (hv : isSl v = true) : doPost lab d k C O' w (.returned (.agg #[.int .u8 c, v])) w' :=
  ⟨c, v, _, rfl, hv, hc, Desk.make h1 h2 h3 h4, fun j hj => (if_pos (by have := h6.size; omega)).trans (h5 j hj), h6⟩

/-! small functions -/
theorem ok_any (v : Value) (hv : ∃ ao n cap, v = .slice ao n cap) (w : World) : Calls Tryz.prog 15 #[v] w fun e w' => e = .returned (.agg #[.int .u8 0, v]) ∧ ∃ z, w' = w.ext z := by
  obtain ⟨ao, n, cap, rfl⟩ := hv
  go_enter Tryz.func15, Tryz.ntmps15
  go_wp2
  refine bodyPost_ret (v := .agg #[.int .u8 0, .slice ao n cap]) (by simp [results, Tryz.results15, go_sem, ↓IntWalk.iteOmega]) rfl ?_
  refine ⟨rfl, Below.is_ext ?_⟩
  (repeat (first | with_reducible exact Below.rf _ | with_reducible exact World.below_ext _ _ | with_reducible refine Below.ex ?_ _ | with_reducible refine Below.al ?_ _ | with_reducible refine Below.setCell ?_ (by simp) _ | with_reducible refine Below.drew ?_))
def ansOk (e : Ending) : Prop := ∃ (ao : Option Addr) (n cap : Nat), e = .returned (.agg #[.int .u8 0, .slice ao n cap])
theorem flag_any (b : Bool) (w : World) : Calls Tryz.prog 35 #[.bool b] w fun e w' => ansOk e ∧ ∃ z, w' = w.ext z := by
  cases b with
  | true =>
    go_enter Tryz.func35, Tryz.ntmps35
    go_wp2_with (go_at_call 15; refine ((ok_any _ ⟨_, _, _, rfl⟩ _)).mono ?_; rintro e w' ⟨rfl, z1, rfl⟩)
    refine bodyPost_ret (v := .agg #[.int .u8 0, .slice (some ⟨w.heap.size + 1, 0, none⟩) 1 1]) (by simp [results, Tryz.results35, go_sem, ↓IntWalk.iteOmega]) rfl ?_
    refine ⟨⟨_, _, _, rfl⟩, Below.is_ext ?_⟩
    (repeat (first | with_reducible exact Below.rf _ | with_reducible exact World.below_ext _ _ | with_reducible refine Below.ex ?_ _ | with_reducible refine Below.al ?_ _ | with_reducible refine Below.setCell ?_ (by simp) _ | with_reducible refine Below.drew ?_))
  | false =>
    go_enter Tryz.func35, Tryz.ntmps35
    go_wp2_with (go_at_call 15; refine ((ok_any _ ⟨_, _, _, rfl⟩ _)).mono ?_; rintro e w' ⟨rfl, z1, rfl⟩)
    refine bodyPost_ret (v := .agg #[.int .u8 0, .slice (some ⟨w.heap.size + 1, 0, none⟩) 1 1]) (by simp [results, Tryz.results35, go_sem, ↓IntWalk.iteOmega]) rfl ?_
    refine ⟨⟨_, _, _, rfl⟩, Below.is_ext ?_⟩
    (repeat (first | with_reducible exact Below.rf _ | with_reducible exact World.below_ext _ _ | with_reducible refine Below.ex ?_ _ | with_reducible refine Below.al ?_ _ | with_reducible refine Below.setCell ?_ (by simp) _ | with_reducible refine Below.drew ?_))
theorem removed_any (n : Int) (c : Int) (w : World) : Calls Tryz.prog 30 #[.int .i64 (n), .int .u8 c] w fun e w' => (∃ (ao : Option Addr) (m cap : Nat), e = .returned (.agg #[.int .u8 c, .slice ao m cap])) ∧ ∃ z, w' = w.ext z := by
  by_cases hc : c = 0
  · subst hc
    go_enter Tryz.func30, Tryz.ntmps30
    go_wp2_with (go_at_call 15; refine ((ok_any _ ⟨_, _, _, rfl⟩ _)).mono ?_; rintro e w' ⟨rfl, z1, rfl⟩)
    refine bodyPost_ret (v := .agg #[.int .u8 0, .slice (some ⟨w.heap.size + 1, 0, none⟩) 1 1]) (by simp [results, Tryz.results30, go_sem, ↓IntWalk.iteOmega]) rfl ?_
    refine ⟨⟨_, _, _, rfl⟩, Below.is_ext ?_⟩
    (repeat (first | with_reducible exact Below.rf _ | with_reducible exact World.below_ext _ _ | with_reducible refine Below.ex ?_ _ | with_reducible refine Below.al ?_ _ | with_reducible refine Below.setCell ?_ (by simp) _ | with_reducible refine Below.drew ?_))
  · have b1 : (c == 0) = false := by simpa using hc
    have b2 : (c != 0) = true := by simpa using hc
    clear hc
    go_enter Tryz.func30, Tryz.ntmps30
    go_wp2
    refine bodyPost_ret (v := .agg #[.int .u8 c, .slice none 0 0]) (by simp [results, Tryz.results30, go_sem, ↓IntWalk.iteOmega]) rfl ?_
    refine ⟨⟨_, _, _, rfl⟩, Below.is_ext ?_⟩
    (repeat (first | with_reducible exact Below.rf _ | with_reducible exact World.below_ext _ _ | with_reducible refine Below.ex ?_ _ | with_reducible refine Below.al ?_ _ | with_reducible refine Below.setCell ?_ (by simp) _ | with_reducible refine Below.drew ?_))
theorem item_any (a b c : Int) (f : Bool) (w : World) : Calls Tryz.prog 16 #[.agg #[.int .i64 (a), .int .i64 (b), .int .i64 (c)], .bool f] w fun e w' => (∃ (cd : Int) (ao : Option Addr) (m cap : Nat), e = .returned (.agg #[.int .u8 cd, .slice ao m cap])) ∧ ∃ z, w' = w.ext z := by
  cases f with
  | true =>
    go_enter Tryz.func16, Tryz.ntmps16
    go_wp2_with (go_at_call 15; refine ((ok_any _ ⟨_, _, _, rfl⟩ _)).mono ?_; rintro e w' ⟨rfl, z1, rfl⟩)
    refine bodyPost_ret (v := .agg #[.int .u8 0, .slice (some ⟨w.heap.size + 1 + 1, 0, none⟩) 3 3]) (by simp [results, Tryz.results16, go_sem, ↓IntWalk.iteOmega]) rfl ?_
    refine ⟨⟨_, _, _, _, rfl⟩, Below.is_ext ?_⟩
    (repeat (first | with_reducible exact Below.rf _ | with_reducible exact World.below_ext _ _ | with_reducible refine Below.ex ?_ _ | with_reducible refine Below.al ?_ _ | with_reducible refine Below.setCell ?_ (by simp) _ | with_reducible refine Below.drew ?_))
  | false =>
    go_enter Tryz.func16, Tryz.ntmps16
    go_wp2
    refine bodyPost_ret (v := .agg #[.int .u8 9, .slice none 0 0]) (by simp [results, Tryz.results16, go_sem, ↓IntWalk.iteOmega]) rfl ?_
    refine ⟨⟨_, _, _, _, rfl⟩, Below.is_ext ?_⟩
    (repeat (first | with_reducible exact Below.rf _ | with_reducible exact World.below_ext _ _ | with_reducible refine Below.ex ?_ _ | with_reducible refine Below.al ?_ _ | with_reducible refine Below.setCell ?_ (by simp) _ | with_reducible refine Below.drew ?_))
theorem newDesk_any (lab : Nat → Nat) (w : World) : Calls Tryz.prog 5 #[] w fun e w' => ∃ d lab', e = .returned (.pointer (some ⟨d, 0, none⟩)) ∧ Desk w' lab' d 0 none ∧ (∀ j, j < w.heap.size → lab' j = lab j) ∧ Below w.heap.size w w' := by
  have NM := hid (newMarks_any 0 (by omega) lab w)
  go_enter Tryz.func5, Tryz.ntmps5
  go_wp2_with (go_at_call 12; refine hold ?_)
  unfold Hid
  refine NM.out.mono ?_
  rintro e w5 ⟨N, lab', rfl, h1, h2, h3⟩
  have H1 := hid h1
  have H2 := hid h2
  have H3 := hid h3
  have sb := h3.size
  clear h1 h2 h3
  go_wp2
  refine bodyPost_ret (v := .pointer (some ⟨w5.heap.size, 0, none⟩)) (by simp [results, Tryz.results5, go_sem, ↓IntWalk.iteOmega]) rfl ?_
  refine ⟨w5.heap.size, fun j => if j < (w5.alloc (.cells #[.pointer none, .slice none 0 0, .int .i64 (0), .pointer (some ⟨N.m, 0, none⟩)] 48)).heap.size then upd lab' w5.heap.size 1 j else 0, rfl, Desk.make (lab := upd lab' w5.heap.size 1) (tv := .pointer none) (N := N) (S := MkS.new 0) ⟨upd_at _ _ _, by simp, by simp [go_sem, ↓IntWalk.iteOmega], by simp [go_sem, ↓IntWalk.iteOmega], fun i hi => by simp [go_sem, ↓IntWalk.iteOmega], none, 0, 0, 0, by simp [go_sem, ↓IntWalk.iteOmega], by simp [go_sem, ↓IntWalk.iteOmega], by omega, by omega, by omega, Or.inl ⟨rfl, rfl⟩⟩ (H1.out.of (by simp) (fun j hj => upd_ne _ _ (by omega)) (fun j hj _ => (Below.al (Below.rf w5) _).block j hj)) (by simp [MkS.new]) rfl, fun j hj => ?_, H3.out.trans (Below.mono (B := w5.heap.size) (by (repeat (first | with_reducible exact Below.rf _ | with_reducible exact World.below_ext _ _ | with_reducible refine Below.ex ?_ _ | with_reducible refine Below.al ?_ _ | with_reducible refine Below.setCell ?_ (by simp) _ | with_reducible refine Below.drew ?_))) sb)⟩
  simp only
  rw [if_pos (by simp; omega), upd_ne _ _ (by omega)]
  exact H2.out j hj
end Go.Proofs.Qxb6500717aGreat
