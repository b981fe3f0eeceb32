/-
  Refines: the desk and the model side by side; Equal.
-/
import Derived.Test.Qxb6500717aGreatBi9
namespace Go.Proofs.Qxb6500717aGreat
open Go.RowKit
set_option linter.unusedSimpArgs false
set_option linter.unusedVariables false
set_option maxRecDepth 20000
set_option maxHeartbeats 4000000

section
variable {w w' : World} {lab lab' : Nat → Nat} {d m k : Nat} {Q : DkS} {M : ModS}
theorem DeskX.of (h : DeskX w lab d k Q) (hs : w.heap.size ≤ w'.heap.size) (hl : ∀ j, j < w.heap.size → lab' j = lab j) (hb : ∀ j, j < w.heap.size → tagL (lab j) → w'.heap[j]? = w.heap[j]?) (hl0 : ∀ j, w'.heap.size ≤ j → lab' j = 0) : DeskX w' lab' d k Q := by
  obtain ⟨tv, N, h1, h2, h3⟩ := h.ex
  exact ⟨⟨tv, N, h1.of hs hl (fun j hj ht => hb j hj (by unfold tagL; omega)), h2.of hs hl (fun j hj ht => hb j hj (by unfold tagL; omega)), h3.of hs hl hb⟩, hl0, h.hp, h.bk⟩
theorem DeskX.below (h : DeskX w lab d k Q) (hb : Below w.heap.size w w') : DeskX w' lab d k Q := h.of hb.size (fun _ _ => rfl) (fun j hj _ => hb.block j hj) (fun j hj => h.hl j (Nat.le_trans hb.size hj))
theorem ModX.of (h : ModX w lab m k M) (hs : w.heap.size ≤ w'.heap.size) (hl : ∀ j, j < w.heap.size → lab' j = lab j) (hb : ∀ j, j < w.heap.size → 30 ≤ lab j → w'.heap[j]? = w.heap[j]?) (hl0 : ∀ j, w'.heap.size ≤ j → lab' j = 0) : ModX w' lab' m k M := by
  obtain ⟨V, hX, h8, h9, h7, h10⟩ := h.ex
  have lm := hX.rd.lt
  have e := hb m lm (by rw [h.lm]; omega)
  have ce : ∀ i, w'.cell? ⟨m, i, none⟩ = w.cell? ⟨m, i, none⟩ := fun i => World.cell?_of_block e
  obtain ⟨v5, a5, b5⟩ := hX.z5
  obtain ⟨v6, a6, b6⟩ := hX.z6
  have lz : ∀ {v : Value} {n : Nat} {vs : List Value}, LAz w (fun b => lab b = 31 ∨ w.heap.size ≤ b) v n vs → LAz w' (fun b => lab' b = 31 ∨ w'.heap.size ≤ b) v n vs := fun hz => by
    refine (hz.mono (G' := fun b => lab' b = 31 ∨ w'.heap.size ≤ b) (fun j hj hg => ?_)).of hs (fun j hg hj => ?_)
    · rcases hg with hg | hg
      · left; rw [hl j hj]; exact hg
      · omega
    · rcases hg with hg | hg
      · rw [hl j hj] at hg
        exact hb j hj (by omega)
      · omega
  refine ⟨(hl m lm).trans h.lm, hl0, ⟨V, ⟨⟨Nat.lt_of_lt_of_le lm hs, (ce 0).trans hX.rd.c0, (ce 1).trans hX.rd.c1, (ce 2).trans hX.rd.c2, (ce 3).trans hX.rd.c3, (ce 4).trans hX.rd.c4, ⟨v5, (ce 5).trans a5, (lz b5).lat⟩, ⟨v6, (ce 6).trans a6, (lz b6).lat⟩, hX.rd.bn, hX.rd.bt, hX.rd.bs⟩, fun i hi => (World.frozen?_of_block e).trans (hX.fz i hi), fun i h1 h2 => (ce i).trans (hX.cv i h1 h2), ⟨v5, (ce 5).trans a5, lz b5⟩, ⟨v6, (ce 6).trans a6, lz b6⟩, fun hg => ?_, fun j hj => Or.inr hj⟩, h8, h9, h7.of hs (fun j hj h => (hl j hj).trans h) (fun j hj h => hb j hj (by omega)), h10.of (Nat.le_refl _) hs (fun j hj h => (hl j hj).trans h) (fun j hj h => hb j hj (by omega))⟩, h.ft, h.bk⟩
  rcases hg with hg | hg
  · rw [hl m lm, h.lm] at hg; omega
  · omega
theorem ModX.below (h : ModX w lab m k M) (hb : Below w.heap.size w w') : ModX w' lab m k M := h.of hb.size (fun _ _ => rfl) (fun j hj _ => hb.block j hj) (fun j hj => h.hl j (Nat.le_trans hb.size hj))
end
def dk0 : DkS := ⟨none, [], 0, MkS.new 0⟩
def md0 : ModS := ⟨⟨false, 0, 0, 0, 0, [], []⟩, [], 0, 0, fun _ => none, 0⟩
theorem rel0 : Rel dk0 md0 := ⟨rfl, RH.empty, RK.new 0⟩
theorem newDeskX (lab : Nat → Nat) (w : World) : Calls Tryz.prog 5 #[] w fun e w' => ∃ d lab', e = .returned (.pointer (some ⟨d, 0, none⟩)) ∧ DeskX w' lab' d 0 dk0 ∧ (∀ j, j < w.heap.size → lab' j = lab j) ∧ Below w.heap.size w w' := by
  have NM := hid (newMarks_any 0 (by omega) lab w)
  go_enter Tryz.func5, Tryz.ntmps5
  go_wp2_with (go_at_call 12; refine hold ?_)
  unfold Hid
  refine NM.out.mono ?_
  rintro e w5 ⟨N, lab', rfl, h1, h2, h3⟩
  have H1 := hid h1
  have H2 := hid h2
  have H3 := hid h3
  have sb := h3.size
  clear h1 h2 h3
  go_wp2
  refine bodyPost_ret (v := .pointer (some ⟨w5.heap.size, 0, none⟩)) (by simp [results, Tryz.results5, go_sem, ↓IntWalk.iteOmega]) rfl ?_
  have hDX : DX (w5.alloc (.cells #[.pointer none, .slice none 0 0, .int .i64 (0), .pointer (some ⟨N.m, 0, none⟩)] 48)) (upd lab' w5.heap.size 1) w5.heap.size (.pointer none) (.pointer (some ⟨N.m, 0, none⟩)) [] 0 := ⟨upd_at _ _ _, by simp, by simp [go_sem, ↓IntWalk.iteOmega], by simp [go_sem, ↓IntWalk.iteOmega], by simp [go_sem, ↓IntWalk.iteOmega], fun i hi => by simp [go_sem, ↓IntWalk.iteOmega], none, 0, by simp [go_sem, ↓IntWalk.iteOmega], by simp, Or.inl ⟨rfl, rfl⟩⟩
  have hMK : MkAt (w5.alloc (.cells #[.pointer none, .slice none 0 0, .int .i64 (0), .pointer (some ⟨N.m, 0, none⟩)] 48)) (upd lab' w5.heap.size 1) N (MkS.new 0) := H1.out.of (by simp) (fun j hj => upd_ne _ _ (by omega)) (fun j hj _ => (Below.al (Below.rf w5) _).block j hj)
  have cl : ∀ j, j < (w5.alloc (.cells #[.pointer none, .slice none 0 0, .int .i64 (0), .pointer (some ⟨N.m, 0, none⟩)] 48)).heap.size → (fun j => if j < (w5.alloc (.cells #[.pointer none, .slice none 0 0, .int .i64 (0), .pointer (some ⟨N.m, 0, none⟩)] 48)).heap.size then upd lab' w5.heap.size 1 j else 0) j = upd lab' w5.heap.size 1 j := fun j hj => if_pos hj
  refine ⟨w5.heap.size, fun j => if j < (w5.alloc (.cells #[.pointer none, .slice none 0 0, .int .i64 (0), .pointer (some ⟨N.m, 0, none⟩)] 48)).heap.size then upd lab' w5.heap.size 1 j else 0, rfl, ⟨⟨.pointer none, N, hDX.rl (fun j hj _ => cl j hj), hMK.rl (fun j hj _ => cl j hj), rfl⟩, fun j hj => if_neg (by omega), fun i h1 h2 => by simp [dk0] at h2, by simp [dk0, MkS.new]⟩, fun j hj => ?_, H3.out.trans (Below.mono (B := w5.heap.size) (by (repeat (first | with_reducible exact Below.rf _ | with_reducible exact World.below_ext _ _ | with_reducible refine Below.ex ?_ _ | with_reducible refine Below.al ?_ _ | with_reducible refine Below.setCell ?_ (by simp) _ | with_reducible refine Below.drew ?_))) sb)⟩
  simp only
  rw [if_pos (by simp; omega), upd_ne _ _ (by omega)]
  exact H2.out j hj
theorem ModX.made {w : World} {lab : Nat → Nat} (hl : ∀ j, w.heap.size ≤ j → lab j = 0) : ModX (w.alloc (.cells #[.bool false, .int .i64 (0), .int .i64 (0), .int .i64 (0), .int .i64 (0), .slice none 0 0, .slice none 0 0, .slice none 0 0, .int .i64 (0), .int .i64 (0), .map none] 32)) (upd lab w.heap.size 30) w.heap.size 0 md0 := by
  refine ⟨upd_at _ _ _, fun j hj => by simp at hj; rw [upd_ne _ _ (by omega)]; exact hl j (by omega), ⟨fun i => if i = 7 then .slice none 0 0 else if i = 10 then .map none else .int .i64 (0), ⟨⟨by simp, by simp [go_sem, ↓IntWalk.iteOmega, md0], by simp [go_sem, ↓IntWalk.iteOmega, md0], by simp [go_sem, ↓IntWalk.iteOmega, md0], by simp [go_sem, ↓IntWalk.iteOmega, md0], by simp [go_sem, ↓IntWalk.iteOmega, md0], ⟨.slice none 0 0, by simp [go_sem, ↓IntWalk.iteOmega], none, 0, rfl, Nat.le_refl _, Or.inl rfl⟩, ⟨.slice none 0 0, by simp [go_sem, ↓IntWalk.iteOmega], none, 0, rfl, Nat.le_refl _, Or.inl rfl⟩, by simp [md0], ⟨by simp [md0], fun x hx => by cases hx⟩, ⟨by simp [md0], fun x hx => by cases hx⟩⟩, fun i hi => by simp [go_sem, ↓IntWalk.iteOmega], fun i h1 h2 => ?_, ⟨.slice none 0 0, by simp [go_sem, ↓IntWalk.iteOmega], Or.inl ⟨rfl, rfl⟩⟩, ⟨.slice none 0 0, by simp [go_sem, ↓IntWalk.iteOmega], Or.inl ⟨rfl, rfl⟩⟩, fun hg => ?_, fun j hj => Or.inr hj⟩, by simp [md0], by simp [md0], ⟨none, 0, by simp [md0], by simp [md0], Or.inl ⟨rfl, rfl⟩⟩, Or.inl ⟨by simp, rfl, rfl, rfl⟩⟩, by simp [md0, MdS.fits], by simp [md0]⟩
  · rcases (by omega : i = 7 ∨ i = 8 ∨ i = 9 ∨ i = 10) with rfl | rfl | rfl | rfl <;> simp [go_sem, ↓IntWalk.iteOmega]
  · rcases hg with hg | hg
    · rw [upd_at] at hg; omega
    · simp at hg
      omega

theorem equal_yes (c : Int) (l : List Int) (v1 v2 : Value) (b1 b2 : Nat) (w : World) (h1 : IntsAt w b1 v1 l) (h2 : IntsAt w b2 v2 l) (hl : l.length ≤ 1000) : Calls Tryz.prog 7 #[.agg #[.int .u8 c, v1], .agg #[.int .u8 c, v2]] w fun e w' => e = .returned (.bool true) ∧ ∃ z, w' = w.ext z := by
  obtain ⟨ao1, cap1, rfl, lc1, e1⟩ := h1
  obtain ⟨ao2, cap2, rfl, lc2, e2⟩ := h2
  obtain ⟨n, hn⟩ : ∃ n, l.length = n := ⟨_, rfl⟩
  have HN := hid hn
  have E1 := hid e1
  have E2 := hid e2
  rw [hn] at lc1 lc2 hl ⊢
  clear e1 e2 hn
  go_enter Tryz.func7, Tryz.ntmps7
  go_wp2
  go_loopw [23] (fun x wr => ∃ i : Nat, x = .int .i64 (i) ∧ i ≤ n ∧ ∃ z, wr = (((w.alloc (.cells #[.int .u8 c, .slice ao1 n cap1] 39)).alloc (.cells #[.int .u8 c, .slice ao2 n cap2] 39)).ext z)) (fun x _ => n - (intOf x).toNat)
  case atStart => exact ⟨0, rfl, by omega, { (w.alloc (.cells #[.int .u8 c, .slice ao1 n cap1] 39)) with heap := #[] }, by simp [World.ext]; rfl⟩
  case round =>
    obtain ⟨i, rfl, hi, z0, rfl⟩ := hrel
    by_cases hlt : i < n
    · have hil : i < l.length := by rw [HN.out]; exact hlt
      have hx : l[i]? = some l[i] := List.getElem?_eq_getElem hil
      generalize l[i] = x at hx
      rcases E1.out with e | ⟨bb1, rfl, -, lb1, g1⟩
      · rw [e] at hil; simp at hil
      rcases E2.out with e | ⟨bb2, rfl, -, lb2, g2⟩
      · rw [e] at hil; simp at hil
      have p1 := g1 i x hx
      have p2 := g2 i x hx
      have bx : (x != x) = false := by simp
      clear hx g1 g2
      go_wp2
      first | with_reducible refine wp_region_ext2 (by kernel_rfl) (by kernel_rfl) ?_ | refine wp_region_ext (by kernel_rfl) (by kernel_rfl) ?_
      repeat (go_big_quiet_step (fail))
      refine wpQuiet_nil ?_
      rintro _ ⟨z, rfl⟩
      go_wp2
      go_roundw
      case rel => exact ⟨i + 1, by go_num, by omega, _, rfl⟩
      case measure => simp [intOf]; omega
    · go_wp2
      go_ret
      exact ⟨rfl, Below.is_ext (by (repeat (first | with_reducible exact Below.rf _ | with_reducible exact World.below_ext _ _ | with_reducible refine Below.ex ?_ _ | with_reducible refine Below.al ?_ _ | with_reducible refine Below.setCell ?_ (by simp) _ | with_reducible refine Below.drew ?_)))⟩
end Go.Proofs.Qxb6500717aGreat
