/-
  The model's Step: questions.
-/
import Derived.Test.Qxb6500717aGreatSt1
namespace Go.Proofs.Qxb6500717aGreat
open Go.RowKit
set_option linter.unusedSimpArgs false
set_option linter.unusedVariables false
set_option maxRecDepth 20000
set_option maxHeartbeats 4000000

theorem mflag_any (b : Bool) (w : World) : Calls Tryz.prog 55 #[.bool b] w fun e w' => (∃ v, e = .returned (.agg #[.int .u8 0, v]) ∧ IntsAt w' w.heap.size v [if b then 1 else 0]) ∧ Below w.heap.size w w' := by
  cases b with
  | true =>
    go_enter Tryz.func55, Tryz.ntmps55
    go_wp2_with (go_at_call 43; refine (mok_any _ ⟨_, _, _, rfl⟩ _).mono ?_; rintro e w' ⟨rfl, z9, rfl⟩)
    refine bodyPost_ret (v := .agg #[.int .u8 0, .slice (some ⟨w.heap.size + 1, 0, none⟩) 1 1]) (by simp [results, Tryz.results55, go_sem, ↓IntWalk.iteOmega]) rfl ?_
    exact ⟨⟨_, rfl, (IntsAt.one (by first | omega | (simp <;> omega)) (by simp <;> omega) (by simp [go_sem, ↓IntWalk.iteOmega]))⟩, by (repeat (first | with_reducible exact Below.rf _ | with_reducible exact World.below_ext _ _ | with_reducible refine Below.ex ?_ _ | with_reducible refine Below.al ?_ _ | with_reducible refine Below.setCell ?_ (by simp) _ | with_reducible refine Below.drew ?_))⟩
  | false =>
    go_enter Tryz.func55, Tryz.ntmps55
    go_wp2_with (go_at_call 43; refine (mok_any _ ⟨_, _, _, rfl⟩ _).mono ?_; rintro e w' ⟨rfl, z9, rfl⟩)
    refine bodyPost_ret (v := .agg #[.int .u8 0, .slice (some ⟨w.heap.size + 1, 0, none⟩) 1 1]) (by simp [results, Tryz.results55, go_sem, ↓IntWalk.iteOmega]) rfl ?_
    exact ⟨⟨_, rfl, (IntsAt.one (by first | omega | (simp <;> omega)) (by simp <;> omega) (by simp [go_sem, ↓IntWalk.iteOmega]))⟩, by (repeat (first | with_reducible exact Below.rf _ | with_reducible exact World.below_ext _ _ | with_reducible refine Below.ex ?_ _ | with_reducible refine Below.al ?_ _ | with_reducible refine Below.setCell ?_ (by simp) _ | with_reducible refine Below.drew ?_))⟩

def MdS.isR (S : MdS) (r : Int) : Bool := decide (0 ≤ r) && decide (r < (S.nr : Int))
def MdS.isC (S : MdS) (c : Int) : Bool := decide (0 ≤ c) && decide (c < (S.nc : Int))
def MdS.isA (S : MdS) (t : Int) : Bool := decide ((S.base : Int) ≤ t) && decide (t < 1099511627776)
def MdS.qHold (S : MdS) (c t : Int) : Int := if S.isC c = true ∧ S.isA t = true then S.hold c t else -1
def MdS.qAt (S : MdS) (r t : Int) : Int := if S.isR r = true ∧ S.isA t = true then S.at r.toNat t else -1
def MdS.qMove (S : MdS) (r a b t : Int) : Bool :=
  if S.isC a = true ∧ S.isA t = true ∧ S.freeC r b (t + 1) = true then
    !(decide (a ≠ b) && decide (S.hold b t ≠ -1) && decide (S.hold b t ≠ r) && decide (S.at (S.hold b t).toNat (t + 1) = a))
  else false
def MdS.qFrom (S : MdS) (r c t : Int) : Bool := S.isR r && S.isC c && S.isA t && S.freeF r c t
def fl (b : Bool) : Int := if b then 1 else 0

theorem st_at (A B C D : Int) (ao : Option Addr) (n cap : Nat) (lab : Nat → Nat) (m k : Nat) (M : ModS) (w : World) (h : ModX w lab m k M) (hh : M.S.has = true) : Calls Tryz.prog 8 #[.pointer (some ⟨m, 0, none⟩), .agg #[.int .i64 (8), .int .i64 (A), .int .i64 (B), .int .i64 (C), .int .i64 (D), .slice ao n cap]] w (stPost lab m k (((0, [M.S.qAt A C]), M)) w) := by
  have HH := hid h
  obtain ⟨V, hO, h8, h9, h7, h10⟩ := h.opens
  have HO := hid hO
  have H8 := hid h8
  have H9 := hid h9
  have H7 := hid h7
  have H10 := hid h10
  have c0 := (hO w (Below.rf _)).rd.c0
  rw [hh] at c0
  have lt := (hO w (Below.rf _)).rd.lt
  clear h hO h8 h9 h7 h10 hh
  have VR := hid (fun w1 (hB : Below w.heap.size w w1) => mrobot_any m M.S A w1 (HO.out w1 hB).rd)
  have VA := hid (fun w1 (hB : Below w.heap.size w w1) => mask_any m M.S C w1 (HO.out w1 hB).rd)
  have VC := hid (fun w1 (hB : Below w.heap.size w w1) => mcell_any m M.S B w1 (HO.out w1 hB).rd)
  unfold MdS.qAt MdS.isR MdS.isA
  obtain ⟨x, hx⟩ : ∃ x, (decide (0 ≤ A) && decide (A < (M.S.nr : Int))) = x := ⟨_, rfl⟩
  obtain ⟨y, hy⟩ : ∃ x, (decide ((M.S.base : Int) ≤ C) && decide (C < 1099511627776)) = x := ⟨_, rfl⟩
  obtain ⟨u, hu⟩ : ∃ x, (decide (0 ≤ B) && decide (B < (M.S.nc : Int))) = x := ⟨_, rfl⟩
  simp only [hx] at VR ⊢
  simp only [hy] at VA ⊢
  simp only [hu] at VC ⊢
  cases x with
  | false =>
    rw [if_neg (fun h => by cases h.1)]
    clear hx hy hu
    go_enter Tryz.func8, Tryz.ntmps8
    go_wp2
    first | with_reducible refine wp_region_ext2 (by kernel_rfl) (by kernel_rfl) ?_ | refine wp_region_ext (by kernel_rfl) (by kernel_rfl) ?_
    repeat (go_big_quiet_step (fail))
    refine wpQuiet_nil ?_
    rintro _ ⟨z, rfl⟩
    go_wp2_with (first | (go_at_call 49; refine (VR.out _ (by (repeat (first | with_reducible exact Below.rf _ | with_reducible exact World.below_ext _ _ | with_reducible refine Below.ex ?_ _ | with_reducible refine Below.al ?_ _ | with_reducible refine Below.setCell ?_ (by simp) _ | with_reducible refine Below.drew ?_)))).mono ?_; rintro e w' ⟨rfl, hw'⟩; obtain rfl := hw') | (go_at_call 51; refine (VC.out _ (by (repeat (first | with_reducible exact Below.rf _ | with_reducible exact World.below_ext _ _ | with_reducible refine Below.ex ?_ _ | with_reducible refine Below.al ?_ _ | with_reducible refine Below.setCell ?_ (by simp) _ | with_reducible refine Below.drew ?_)))).mono ?_; rintro e w' ⟨rfl, hw'⟩; obtain rfl := hw') | (go_at_call 52; refine (VA.out _ (by (repeat (first | with_reducible exact Below.rf _ | with_reducible exact World.below_ext _ _ | with_reducible refine Below.ex ?_ _ | with_reducible refine Below.al ?_ _ | with_reducible refine Below.setCell ?_ (by simp) _ | with_reducible refine Below.drew ?_)))).mono ?_; rintro e w' ⟨rfl, hw'⟩; obtain rfl := hw') | (go_at_call 53; refine (HD.out _ (by (repeat (first | with_reducible exact Below.rf _ | with_reducible exact World.below_ext _ _ | with_reducible refine Below.ex ?_ _ | with_reducible refine Below.al ?_ _ | with_reducible refine Below.setCell ?_ (by simp) _ | with_reducible refine Below.drew ?_)))).mono ?_; rintro e w' ⟨rfl, z1, rfl⟩) | (go_at_call 54; refine (AT.out _ (by (repeat (first | with_reducible exact Below.rf _ | with_reducible exact World.below_ext _ _ | with_reducible refine Below.ex ?_ _ | with_reducible refine Below.al ?_ _ | with_reducible refine Below.setCell ?_ (by simp) _ | with_reducible refine Below.drew ?_)))).mono ?_; rintro e w' ⟨rfl, z2, rfl⟩) | (go_at_call 43; refine (mok_any _ ⟨_, _, _, rfl⟩ _).mono ?_; rintro e w' ⟨rfl, z9, rfl⟩))
    refine bodyPost_ret (v := .agg #[.int .u8 0, .slice (some ⟨w.heap.size + 1 + 1 + z.heap.size, 0, none⟩) 1 1]) (by simp [results, Tryz.results8, go_sem, ↓IntWalk.iteOmega, *]) rfl ?_
    exact st_fin HH.out H8.out H9.out H7.out H10.out (by (repeat (first | with_reducible exact Below.rf _ | with_reducible exact World.below_ext _ _ | with_reducible refine Below.ex ?_ _ | with_reducible refine Below.al ?_ _ | with_reducible refine Below.setCell ?_ (by simp) _ | with_reducible refine Below.drew ?_))) (by simp <;> omega) (HO.out _ (by (repeat (first | with_reducible exact Below.rf _ | with_reducible exact World.below_ext _ _ | with_reducible refine Below.ex ?_ _ | with_reducible refine Below.al ?_ _ | with_reducible refine Below.setCell ?_ (by simp) _ | with_reducible refine Below.drew ?_)))) (KeptBut.refl _ _) (KeptBut.refl _ _) HH.out.ft (IntsAt.one (by first | omega | (simp <;> omega)) (by simp <;> omega) (by simp [go_sem, ↓IntWalk.iteOmega]))
  | true =>
    cases y with
    | false =>
      rw [if_neg (fun h => by cases h.2)]
      clear hx hy hu
      go_enter Tryz.func8, Tryz.ntmps8
      go_wp2
      first | with_reducible refine wp_region_ext2 (by kernel_rfl) (by kernel_rfl) ?_ | refine wp_region_ext (by kernel_rfl) (by kernel_rfl) ?_
      repeat (go_big_quiet_step (fail))
      refine wpQuiet_nil ?_
      rintro _ ⟨z, rfl⟩
      go_wp2_with (first | (go_at_call 49; refine (VR.out _ (by (repeat (first | with_reducible exact Below.rf _ | with_reducible exact World.below_ext _ _ | with_reducible refine Below.ex ?_ _ | with_reducible refine Below.al ?_ _ | with_reducible refine Below.setCell ?_ (by simp) _ | with_reducible refine Below.drew ?_)))).mono ?_; rintro e w' ⟨rfl, hw'⟩; obtain rfl := hw') | (go_at_call 51; refine (VC.out _ (by (repeat (first | with_reducible exact Below.rf _ | with_reducible exact World.below_ext _ _ | with_reducible refine Below.ex ?_ _ | with_reducible refine Below.al ?_ _ | with_reducible refine Below.setCell ?_ (by simp) _ | with_reducible refine Below.drew ?_)))).mono ?_; rintro e w' ⟨rfl, hw'⟩; obtain rfl := hw') | (go_at_call 52; refine (VA.out _ (by (repeat (first | with_reducible exact Below.rf _ | with_reducible exact World.below_ext _ _ | with_reducible refine Below.ex ?_ _ | with_reducible refine Below.al ?_ _ | with_reducible refine Below.setCell ?_ (by simp) _ | with_reducible refine Below.drew ?_)))).mono ?_; rintro e w' ⟨rfl, hw'⟩; obtain rfl := hw') | (go_at_call 53; refine (HD.out _ (by (repeat (first | with_reducible exact Below.rf _ | with_reducible exact World.below_ext _ _ | with_reducible refine Below.ex ?_ _ | with_reducible refine Below.al ?_ _ | with_reducible refine Below.setCell ?_ (by simp) _ | with_reducible refine Below.drew ?_)))).mono ?_; rintro e w' ⟨rfl, z1, rfl⟩) | (go_at_call 54; refine (AT.out _ (by (repeat (first | with_reducible exact Below.rf _ | with_reducible exact World.below_ext _ _ | with_reducible refine Below.ex ?_ _ | with_reducible refine Below.al ?_ _ | with_reducible refine Below.setCell ?_ (by simp) _ | with_reducible refine Below.drew ?_)))).mono ?_; rintro e w' ⟨rfl, z2, rfl⟩) | (go_at_call 43; refine (mok_any _ ⟨_, _, _, rfl⟩ _).mono ?_; rintro e w' ⟨rfl, z9, rfl⟩))
      refine bodyPost_ret (v := .agg #[.int .u8 0, .slice (some ⟨w.heap.size + 1 + 1 + z.heap.size, 0, none⟩) 1 1]) (by simp [results, Tryz.results8, go_sem, ↓IntWalk.iteOmega, *]) rfl ?_
      exact st_fin HH.out H8.out H9.out H7.out H10.out (by (repeat (first | with_reducible exact Below.rf _ | with_reducible exact World.below_ext _ _ | with_reducible refine Below.ex ?_ _ | with_reducible refine Below.al ?_ _ | with_reducible refine Below.setCell ?_ (by simp) _ | with_reducible refine Below.drew ?_))) (by simp <;> omega) (HO.out _ (by (repeat (first | with_reducible exact Below.rf _ | with_reducible exact World.below_ext _ _ | with_reducible refine Below.ex ?_ _ | with_reducible refine Below.al ?_ _ | with_reducible refine Below.setCell ?_ (by simp) _ | with_reducible refine Below.drew ?_)))) (KeptBut.refl _ _) (KeptBut.refl _ _) HH.out.ft (IntsAt.one (by first | omega | (simp <;> omega)) (by simp <;> omega) (by simp [go_sem, ↓IntWalk.iteOmega]))
    | true =>
      rw [if_pos ⟨rfl, rfl⟩]
      obtain ⟨r, rfl⟩ := Int.eq_ofNat_of_zero_le (show 0 ≤ A by simp at hx; omega)
      have AT := hid (fun w1 (hB : Below w.heap.size w w1) => mat_ext m M.S r C w1 (HO.out w1 hB).rd)
      simp only [Int.toNat_natCast]
      generalize M.S.at r C = res at *
      clear hx hy hu
      go_enter Tryz.func8, Tryz.ntmps8
      go_wp2
      first | with_reducible refine wp_region_ext2 (by kernel_rfl) (by kernel_rfl) ?_ | refine wp_region_ext (by kernel_rfl) (by kernel_rfl) ?_
      repeat (go_big_quiet_step (fail))
      refine wpQuiet_nil ?_
      rintro _ ⟨z, rfl⟩
      go_wp2_with (first | (go_at_call 49; refine (VR.out _ (by (repeat (first | with_reducible exact Below.rf _ | with_reducible exact World.below_ext _ _ | with_reducible refine Below.ex ?_ _ | with_reducible refine Below.al ?_ _ | with_reducible refine Below.setCell ?_ (by simp) _ | with_reducible refine Below.drew ?_)))).mono ?_; rintro e w' ⟨rfl, hw'⟩; obtain rfl := hw') | (go_at_call 51; refine (VC.out _ (by (repeat (first | with_reducible exact Below.rf _ | with_reducible exact World.below_ext _ _ | with_reducible refine Below.ex ?_ _ | with_reducible refine Below.al ?_ _ | with_reducible refine Below.setCell ?_ (by simp) _ | with_reducible refine Below.drew ?_)))).mono ?_; rintro e w' ⟨rfl, hw'⟩; obtain rfl := hw') | (go_at_call 52; refine (VA.out _ (by (repeat (first | with_reducible exact Below.rf _ | with_reducible exact World.below_ext _ _ | with_reducible refine Below.ex ?_ _ | with_reducible refine Below.al ?_ _ | with_reducible refine Below.setCell ?_ (by simp) _ | with_reducible refine Below.drew ?_)))).mono ?_; rintro e w' ⟨rfl, hw'⟩; obtain rfl := hw') | (go_at_call 53; refine (HD.out _ (by (repeat (first | with_reducible exact Below.rf _ | with_reducible exact World.below_ext _ _ | with_reducible refine Below.ex ?_ _ | with_reducible refine Below.al ?_ _ | with_reducible refine Below.setCell ?_ (by simp) _ | with_reducible refine Below.drew ?_)))).mono ?_; rintro e w' ⟨rfl, z1, rfl⟩) | (go_at_call 54; refine (AT.out _ (by (repeat (first | with_reducible exact Below.rf _ | with_reducible exact World.below_ext _ _ | with_reducible refine Below.ex ?_ _ | with_reducible refine Below.al ?_ _ | with_reducible refine Below.setCell ?_ (by simp) _ | with_reducible refine Below.drew ?_)))).mono ?_; rintro e w' ⟨rfl, z2, rfl⟩) | (go_at_call 43; refine (mok_any _ ⟨_, _, _, rfl⟩ _).mono ?_; rintro e w' ⟨rfl, z9, rfl⟩))
      refine bodyPost_ret (v := .agg #[.int .u8 0, .slice (some ⟨w.heap.size + 1 + 1 + z.heap.size + z2.heap.size, 0, none⟩) 1 1]) (by simp [results, Tryz.results8, go_sem, ↓IntWalk.iteOmega, *]) rfl ?_
      exact st_fin HH.out H8.out H9.out H7.out H10.out (by (repeat (first | with_reducible exact Below.rf _ | with_reducible exact World.below_ext _ _ | with_reducible refine Below.ex ?_ _ | with_reducible refine Below.al ?_ _ | with_reducible refine Below.setCell ?_ (by simp) _ | with_reducible refine Below.drew ?_))) (by simp <;> omega) (HO.out _ (by (repeat (first | with_reducible exact Below.rf _ | with_reducible exact World.below_ext _ _ | with_reducible refine Below.ex ?_ _ | with_reducible refine Below.al ?_ _ | with_reducible refine Below.setCell ?_ (by simp) _ | with_reducible refine Below.drew ?_)))) (KeptBut.refl _ _) (KeptBut.refl _ _) HH.out.ft (IntsAt.one (by first | omega | (simp <;> omega)) (by simp <;> omega) (by simp [go_sem, ↓IntWalk.iteOmega]))
theorem st_hold (A B C D : Int) (ao : Option Addr) (n cap : Nat) (lab : Nat → Nat) (m k : Nat) (M : ModS) (w : World) (h : ModX w lab m k M) (hh : M.S.has = true) : Calls Tryz.prog 8 #[.pointer (some ⟨m, 0, none⟩), .agg #[.int .i64 (7), .int .i64 (A), .int .i64 (B), .int .i64 (C), .int .i64 (D), .slice ao n cap]] w (stPost lab m k (((0, [M.S.qHold B C]), M)) w) := by
  have HH := hid h
  obtain ⟨V, hO, h8, h9, h7, h10⟩ := h.opens
  have HO := hid hO
  have H8 := hid h8
  have H9 := hid h9
  have H7 := hid h7
  have H10 := hid h10
  have c0 := (hO w (Below.rf _)).rd.c0
  rw [hh] at c0
  have lt := (hO w (Below.rf _)).rd.lt
  clear h hO h8 h9 h7 h10 hh
  have VR := hid (fun w1 (hB : Below w.heap.size w w1) => mrobot_any m M.S A w1 (HO.out w1 hB).rd)
  have VA := hid (fun w1 (hB : Below w.heap.size w w1) => mask_any m M.S C w1 (HO.out w1 hB).rd)
  have VC := hid (fun w1 (hB : Below w.heap.size w w1) => mcell_any m M.S B w1 (HO.out w1 hB).rd)
  unfold MdS.qHold MdS.isC MdS.isA
  have HD := hid (fun w1 (hB : Below w.heap.size w w1) => mhold_ext m M.S B C w1 (HO.out w1 hB).rd)
  generalize M.S.hold B C = res at *
  obtain ⟨x, hx⟩ : ∃ x, (decide (0 ≤ A) && decide (A < (M.S.nr : Int))) = x := ⟨_, rfl⟩
  obtain ⟨y, hy⟩ : ∃ x, (decide ((M.S.base : Int) ≤ C) && decide (C < 1099511627776)) = x := ⟨_, rfl⟩
  obtain ⟨u, hu⟩ : ∃ x, (decide (0 ≤ B) && decide (B < (M.S.nc : Int))) = x := ⟨_, rfl⟩
  simp only [hx] at VR ⊢
  simp only [hy] at VA ⊢
  simp only [hu] at VC ⊢
  cases u with
  | false =>
    rw [if_neg (fun h => by cases h.1)]
    clear hx hy hu
    go_enter Tryz.func8, Tryz.ntmps8
    go_wp2
    first | with_reducible refine wp_region_ext2 (by kernel_rfl) (by kernel_rfl) ?_ | refine wp_region_ext (by kernel_rfl) (by kernel_rfl) ?_
    repeat (go_big_quiet_step (fail))
    refine wpQuiet_nil ?_
    rintro _ ⟨z, rfl⟩
    go_wp2_with (first | (go_at_call 49; refine (VR.out _ (by (repeat (first | with_reducible exact Below.rf _ | with_reducible exact World.below_ext _ _ | with_reducible refine Below.ex ?_ _ | with_reducible refine Below.al ?_ _ | with_reducible refine Below.setCell ?_ (by simp) _ | with_reducible refine Below.drew ?_)))).mono ?_; rintro e w' ⟨rfl, hw'⟩; obtain rfl := hw') | (go_at_call 51; refine (VC.out _ (by (repeat (first | with_reducible exact Below.rf _ | with_reducible exact World.below_ext _ _ | with_reducible refine Below.ex ?_ _ | with_reducible refine Below.al ?_ _ | with_reducible refine Below.setCell ?_ (by simp) _ | with_reducible refine Below.drew ?_)))).mono ?_; rintro e w' ⟨rfl, hw'⟩; obtain rfl := hw') | (go_at_call 52; refine (VA.out _ (by (repeat (first | with_reducible exact Below.rf _ | with_reducible exact World.below_ext _ _ | with_reducible refine Below.ex ?_ _ | with_reducible refine Below.al ?_ _ | with_reducible refine Below.setCell ?_ (by simp) _ | with_reducible refine Below.drew ?_)))).mono ?_; rintro e w' ⟨rfl, hw'⟩; obtain rfl := hw') | (go_at_call 53; refine (HD.out _ (by (repeat (first | with_reducible exact Below.rf _ | with_reducible exact World.below_ext _ _ | with_reducible refine Below.ex ?_ _ | with_reducible refine Below.al ?_ _ | with_reducible refine Below.setCell ?_ (by simp) _ | with_reducible refine Below.drew ?_)))).mono ?_; rintro e w' ⟨rfl, z1, rfl⟩) | (go_at_call 54; refine (AT.out _ (by (repeat (first | with_reducible exact Below.rf _ | with_reducible exact World.below_ext _ _ | with_reducible refine Below.ex ?_ _ | with_reducible refine Below.al ?_ _ | with_reducible refine Below.setCell ?_ (by simp) _ | with_reducible refine Below.drew ?_)))).mono ?_; rintro e w' ⟨rfl, z2, rfl⟩) | (go_at_call 43; refine (mok_any _ ⟨_, _, _, rfl⟩ _).mono ?_; rintro e w' ⟨rfl, z9, rfl⟩))
    refine bodyPost_ret (v := .agg #[.int .u8 0, .slice (some ⟨w.heap.size + 1 + 1 + z.heap.size, 0, none⟩) 1 1]) (by simp [results, Tryz.results8, go_sem, ↓IntWalk.iteOmega, *]) rfl ?_
    exact st_fin HH.out H8.out H9.out H7.out H10.out (by (repeat (first | with_reducible exact Below.rf _ | with_reducible exact World.below_ext _ _ | with_reducible refine Below.ex ?_ _ | with_reducible refine Below.al ?_ _ | with_reducible refine Below.setCell ?_ (by simp) _ | with_reducible refine Below.drew ?_))) (by simp <;> omega) (HO.out _ (by (repeat (first | with_reducible exact Below.rf _ | with_reducible exact World.below_ext _ _ | with_reducible refine Below.ex ?_ _ | with_reducible refine Below.al ?_ _ | with_reducible refine Below.setCell ?_ (by simp) _ | with_reducible refine Below.drew ?_)))) (KeptBut.refl _ _) (KeptBut.refl _ _) HH.out.ft (IntsAt.one (by first | omega | (simp <;> omega)) (by simp <;> omega) (by simp [go_sem, ↓IntWalk.iteOmega]))
  | true =>
    cases y with
    | false =>
      rw [if_neg (fun h => by cases h.2)]
      clear hx hy hu
      go_enter Tryz.func8, Tryz.ntmps8
      go_wp2
      first | with_reducible refine wp_region_ext2 (by kernel_rfl) (by kernel_rfl) ?_ | refine wp_region_ext (by kernel_rfl) (by kernel_rfl) ?_
      repeat (go_big_quiet_step (fail))
      refine wpQuiet_nil ?_
      rintro _ ⟨z, rfl⟩
      go_wp2_with (first | (go_at_call 49; refine (VR.out _ (by (repeat (first | with_reducible exact Below.rf _ | with_reducible exact World.below_ext _ _ | with_reducible refine Below.ex ?_ _ | with_reducible refine Below.al ?_ _ | with_reducible refine Below.setCell ?_ (by simp) _ | with_reducible refine Below.drew ?_)))).mono ?_; rintro e w' ⟨rfl, hw'⟩; obtain rfl := hw') | (go_at_call 51; refine (VC.out _ (by (repeat (first | with_reducible exact Below.rf _ | with_reducible exact World.below_ext _ _ | with_reducible refine Below.ex ?_ _ | with_reducible refine Below.al ?_ _ | with_reducible refine Below.setCell ?_ (by simp) _ | with_reducible refine Below.drew ?_)))).mono ?_; rintro e w' ⟨rfl, hw'⟩; obtain rfl := hw') | (go_at_call 52; refine (VA.out _ (by (repeat (first | with_reducible exact Below.rf _ | with_reducible exact World.below_ext _ _ | with_reducible refine Below.ex ?_ _ | with_reducible refine Below.al ?_ _ | with_reducible refine Below.setCell ?_ (by simp) _ | with_reducible refine Below.drew ?_)))).mono ?_; rintro e w' ⟨rfl, hw'⟩; obtain rfl := hw') | (go_at_call 53; refine (HD.out _ (by (repeat (first | with_reducible exact Below.rf _ | with_reducible exact World.below_ext _ _ | with_reducible refine Below.ex ?_ _ | with_reducible refine Below.al ?_ _ | with_reducible refine Below.setCell ?_ (by simp) _ | with_reducible refine Below.drew ?_)))).mono ?_; rintro e w' ⟨rfl, z1, rfl⟩) | (go_at_call 54; refine (AT.out _ (by (repeat (first | with_reducible exact Below.rf _ | with_reducible exact World.below_ext _ _ | with_reducible refine Below.ex ?_ _ | with_reducible refine Below.al ?_ _ | with_reducible refine Below.setCell ?_ (by simp) _ | with_reducible refine Below.drew ?_)))).mono ?_; rintro e w' ⟨rfl, z2, rfl⟩) | (go_at_call 43; refine (mok_any _ ⟨_, _, _, rfl⟩ _).mono ?_; rintro e w' ⟨rfl, z9, rfl⟩))
      refine bodyPost_ret (v := .agg #[.int .u8 0, .slice (some ⟨w.heap.size + 1 + 1 + z.heap.size, 0, none⟩) 1 1]) (by simp [results, Tryz.results8, go_sem, ↓IntWalk.iteOmega, *]) rfl ?_
      exact st_fin HH.out H8.out H9.out H7.out H10.out (by (repeat (first | with_reducible exact Below.rf _ | with_reducible exact World.below_ext _ _ | with_reducible refine Below.ex ?_ _ | with_reducible refine Below.al ?_ _ | with_reducible refine Below.setCell ?_ (by simp) _ | with_reducible refine Below.drew ?_))) (by simp <;> omega) (HO.out _ (by (repeat (first | with_reducible exact Below.rf _ | with_reducible exact World.below_ext _ _ | with_reducible refine Below.ex ?_ _ | with_reducible refine Below.al ?_ _ | with_reducible refine Below.setCell ?_ (by simp) _ | with_reducible refine Below.drew ?_)))) (KeptBut.refl _ _) (KeptBut.refl _ _) HH.out.ft (IntsAt.one (by first | omega | (simp <;> omega)) (by simp <;> omega) (by simp [go_sem, ↓IntWalk.iteOmega]))
    | true =>
      rw [if_pos ⟨rfl, rfl⟩]
      clear hx hy hu
      go_enter Tryz.func8, Tryz.ntmps8
      go_wp2
      first | with_reducible refine wp_region_ext2 (by kernel_rfl) (by kernel_rfl) ?_ | refine wp_region_ext (by kernel_rfl) (by kernel_rfl) ?_
      repeat (go_big_quiet_step (fail))
      refine wpQuiet_nil ?_
      rintro _ ⟨z, rfl⟩
      go_wp2_with (first | (go_at_call 49; refine (VR.out _ (by (repeat (first | with_reducible exact Below.rf _ | with_reducible exact World.below_ext _ _ | with_reducible refine Below.ex ?_ _ | with_reducible refine Below.al ?_ _ | with_reducible refine Below.setCell ?_ (by simp) _ | with_reducible refine Below.drew ?_)))).mono ?_; rintro e w' ⟨rfl, hw'⟩; obtain rfl := hw') | (go_at_call 51; refine (VC.out _ (by (repeat (first | with_reducible exact Below.rf _ | with_reducible exact World.below_ext _ _ | with_reducible refine Below.ex ?_ _ | with_reducible refine Below.al ?_ _ | with_reducible refine Below.setCell ?_ (by simp) _ | with_reducible refine Below.drew ?_)))).mono ?_; rintro e w' ⟨rfl, hw'⟩; obtain rfl := hw') | (go_at_call 52; refine (VA.out _ (by (repeat (first | with_reducible exact Below.rf _ | with_reducible exact World.below_ext _ _ | with_reducible refine Below.ex ?_ _ | with_reducible refine Below.al ?_ _ | with_reducible refine Below.setCell ?_ (by simp) _ | with_reducible refine Below.drew ?_)))).mono ?_; rintro e w' ⟨rfl, hw'⟩; obtain rfl := hw') | (go_at_call 53; refine (HD.out _ (by (repeat (first | with_reducible exact Below.rf _ | with_reducible exact World.below_ext _ _ | with_reducible refine Below.ex ?_ _ | with_reducible refine Below.al ?_ _ | with_reducible refine Below.setCell ?_ (by simp) _ | with_reducible refine Below.drew ?_)))).mono ?_; rintro e w' ⟨rfl, z1, rfl⟩) | (go_at_call 54; refine (AT.out _ (by (repeat (first | with_reducible exact Below.rf _ | with_reducible exact World.below_ext _ _ | with_reducible refine Below.ex ?_ _ | with_reducible refine Below.al ?_ _ | with_reducible refine Below.setCell ?_ (by simp) _ | with_reducible refine Below.drew ?_)))).mono ?_; rintro e w' ⟨rfl, z2, rfl⟩) | (go_at_call 43; refine (mok_any _ ⟨_, _, _, rfl⟩ _).mono ?_; rintro e w' ⟨rfl, z9, rfl⟩))
      refine bodyPost_ret (v := .agg #[.int .u8 0, .slice (some ⟨w.heap.size + 1 + 1 + z.heap.size + z1.heap.size, 0, none⟩) 1 1]) (by simp [results, Tryz.results8, go_sem, ↓IntWalk.iteOmega, *]) rfl ?_
      exact st_fin HH.out H8.out H9.out H7.out H10.out (by (repeat (first | with_reducible exact Below.rf _ | with_reducible exact World.below_ext _ _ | with_reducible refine Below.ex ?_ _ | with_reducible refine Below.al ?_ _ | with_reducible refine Below.setCell ?_ (by simp) _ | with_reducible refine Below.drew ?_))) (by simp <;> omega) (HO.out _ (by (repeat (first | with_reducible exact Below.rf _ | with_reducible exact World.below_ext _ _ | with_reducible refine Below.ex ?_ _ | with_reducible refine Below.al ?_ _ | with_reducible refine Below.setCell ?_ (by simp) _ | with_reducible refine Below.drew ?_)))) (KeptBut.refl _ _) (KeptBut.refl _ _) HH.out.ft (IntsAt.one (by first | omega | (simp <;> omega)) (by simp <;> omega) (by simp [go_sem, ↓IntWalk.iteOmega]))

end Go.Proofs.Qxb6500717aGreat
