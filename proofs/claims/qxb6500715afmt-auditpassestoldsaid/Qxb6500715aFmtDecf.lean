/-
  Decode: the walk.
-/
import Derived.Test.Qxb6500715aFmtNew
namespace Go.Proofs.Qxb6500715aFmt
open Go.RowKit
set_option linter.unusedSimpArgs false
set_option linter.unusedVariables false

/-- A layout in naturals. -/
theorem lay_nat {A S P D r c : Int} {n : Nat} {px py : Nat → Int} (h : layOk A S P D r c n px py) :
    ∃ (A' S' P' D' c' : Nat) (px' py' : Nat → Nat), A = A' ∧ S = S' ∧ P = P' ∧ D = D' ∧ r = 1 ∧ c = c' ∧ (∀ i, i < n → px i = px' i ∧ py i = py' i) ∧ LayN A' S' P' D' c' n px' py' := by
  obtain ⟨hn, hA, hS, hP, hD, hr, hc, hp1, hp2⟩ := h
  obtain ⟨A', rfl⟩ : ∃ x : Nat, A = x := ⟨A.toNat, by omega⟩
  obtain ⟨S', rfl⟩ : ∃ x : Nat, S = x := ⟨S.toNat, by omega⟩
  obtain ⟨P', rfl⟩ : ∃ x : Nat, P = x := ⟨P.toNat, by omega⟩
  obtain ⟨D', rfl⟩ : ∃ x : Nat, D = x := ⟨D.toNat, by omega⟩
  obtain ⟨c', rfl⟩ : ∃ x : Nat, c = x := ⟨c.toNat, by omega⟩
  have hW : ((A' : Int) - 1) * P' + 3 = (((A' - 1) * P' + 3 : Nat) : Int) := by
    rw [Int.natCast_add, Int.natCast_mul, Int.natCast_sub (by omega)]; rfl
  have hx : ∀ i, i < n → (px i = 0 ∨ px i = (S' : Int) + 3) ∧ 0 ≤ py i ∧ py i < ((A' : Int) - 1) * P' + 3 ∧ 0 ≤ px i := fun i hi => by
    have h1 := hp1 i hi
    have h2 := onApron_inGrid h1
    simp [inGrid] at h2
    simp [onApron] at h1
    omega
  refine ⟨A', S', P', D', c', fun i => (px i).toNat, fun i => (py i).toNat, rfl, rfl, rfl, rfl, hr, rfl, fun i hi => ?_, ?_⟩
  · have := hx i hi
    show px i = ((px i).toNat : Int) ∧ py i = ((py i).toNat : Int)
    omega
  · exact { hA := by omega, hS := by omega, hP := by omega, hD := by omega, hn := hn, hc := by omega,
            hx := fun i hi => by
              have := hx i hi
              show ((px i).toNat = 0 ∨ (px i).toNat = S' + 3) ∧ (py i).toNat < (A' - 1) * P' + 3
              omega,
            hne := fun i j hj hi => by
              have h1 := hx i hi
              have h2 := hx j (by omega)
              have h3 := hp2 i j hj hi
              rintro ⟨h4, h5⟩
              have h4' : (px j).toNat = (px i).toNat := h4
              have h5' : (py j).toNat = (py i).toNat := h5
              exact h3 ⟨by omega, by omega⟩ }

def decfPost (w : World) (e : Ending) (w' : World) : Prop :=
  (∃ fb, e = .returned (.tuple #[.pointer (some ⟨fb, 0, none⟩), .agg #[.int .u8 0, .int .i64 (0)]]) ∧ HasFlo w' (fun k => w.heap.size ≤ k ∧ k < w'.heap.size) fb ∧ ∃ z, w' = w.ext z) ∨
  (∃ k o, e = .returned (.tuple #[.pointer none, .agg #[.int .u8 k, .int .i64 (o)]]) ∧ (k == 0) = false ∧ ∃ z, w' = w.ext z)

set_option maxRecDepth 20000 in
set_option maxHeartbeats 2000000 in
theorem decodeF_any (ao : Option Addr) (len cap : Nat) (f : Nat → Int) (w : World) (hG : Globs w) (hDr : Dirs w) (hm : len ≤ 1000000) (hlc : len ≤ cap) (hr : ∀ i, 0 ≤ f i ∧ f i < 256)
    (hd : 0 < len → ∃ b off, ao = some ⟨b, off, none⟩ ∧ b < w.heap.size ∧ ∀ j, j < len → w.cell? ⟨b, off + j, none⟩ = some (.int .u8 (f j))) :
    Calls Tryf.prog 7 #[.slice ao len cap] w (decfPost w) := by
  have HG := hid hG
  have HDR := hid hDr
  have HD := hid hd
  clear hG hDr hd
  go_enter Tryf.func7, Tryf.ntmps7
  go_wp2_with fail
  have hB0 : Below w.heap.size w (w.alloc (.cells #[.int .u8 0, .int .i64 (0)] 36)) := (Below.rf w).al _
  refine (decode_all ao len cap f _ (HG.out.below hB0) hm hlc hr (fun hp => by
    obtain ⟨b, off, h1, h2, h3⟩ := HD.out hp
    exact ⟨b, off, h1, by simp; omega, fun j hj => by rw [hB0.cell h2]; exact h3 j hj⟩)).mono ?_
  rintro e w1 (⟨hok, hpost⟩ | ⟨hno, k, o, rfl, hk, z1, rfl⟩)
  case inr =>
    go_wp2_with (go_at_call 8; refine (Calls.tf (accepted_any _ _ _) hk).mono ?_; rintro e w' ⟨rfl, z2, rfl⟩)
    first | with_reducible refine wp_region_tail_ext2 2 (by kernel_rfl) (by kernel_rfl) ?_ | refine wp_region_tail_ext 2 (by kernel_rfl) (by kernel_rfl) ?_
    simp only [List.take_succ_cons, List.take_zero, List.drop_succ_cons, List.drop_zero]
    repeat (go_big_quiet_step (fail))
    refine wpQuiet_nil ?_
    rintro _ ⟨z, rfl⟩
    go_wp2
    refine bodyPost_ret (v := .tuple #[.pointer none, .agg #[.int .u8 k, .int .i64 (o)]]) (by simp [results, Tryf.results7, go_sem, ↓IntWalk.iteOmega]) rfl (Or.inr ⟨k, o, rfl, hk, ?_⟩)
    refine Below.is_ext ?_
    repeat (first | with_reducible exact Below.rf _ | with_reducible exact World.below_ext _ _ | with_reducible refine Below.ex ?_ _ | with_reducible refine Below.al ?_ _ | with_reducible refine Below.setCell ?_ (by simp) _ | with_reducible refine Below.drew ?_)
  case inl =>
    obtain ⟨pb, hpb1, hpb2, hq0, hq1, rfl, z1, hz1⟩ := hpost
    have hB1 : Below w.heap.size w w1 := by rw [hz1]; exact hB0.ex z1
    have hs1 := hB1.size
    have hw1s : w.heap.size < w1.heap.size := by rw [hz1]; simp; omega
    have v0 : w1.cell? ⟨w.heap.size, 0, none⟩ = some (.int .u8 0) := by rw [hz1]; simp [go_sem, ↓IntWalk.iteOmega]
    have v1 : w1.cell? ⟨w.heap.size, 1, none⟩ = some (.int .i64 (0)) := by rw [hz1]; simp [go_sem, ↓IntWalk.iteOmega]
    have vf0 : w1.frozen? ⟨w.heap.size, 0, none⟩ = false := by rw [hz1]; simp [go_sem, ↓IntWalk.iteOmega]
    have vf1 : w1.frozen? ⟨w.heap.size, 1, none⟩ = false := by rw [hz1]; simp [go_sem, ↓IntWalk.iteOmega]
    obtain ⟨A, S, P, D, c, px, py, hA, hS, hP, hD, hr1, hc, hpp, hL⟩ := lay_nat hok.2
    have hOK : layOk A S P D 1 c (f 8).toNat (fun i => (px i : Int)) (fun i => (py i : Int)) := by
      have h := hok.2
      rw [hA, hS, hP, hD, hr1, hc] at h
      obtain ⟨h1, h2, h3, h4, h5, h6, h7, h8, h9⟩ := h
      refine ⟨h1, h2, h3, h4, h5, rfl, h7, fun i hi => ?_, fun i j hj hi => ?_⟩
      · have := h8 i hi
        dsimp only at this ⊢
        rw [show f (9 + 2 * i) = (px i : Int) from (hpp i hi).1, show f (10 + 2 * i) = (py i : Int) from (hpp i hi).2] at this
        exact this
      · have := h9 i j hj hi
        dsimp only at this ⊢
        rw [show f (9 + 2 * i) = (px i : Int) from (hpp i hi).1, show f (10 + 2 * i) = (py i : Int) from (hpp i hi).2, show f (9 + 2 * j) = (px j : Int) from (hpp j (by omega)).1, show f (10 + 2 * j) = (py j : Int) from (hpp j (by omega)).2] at this
        exact this
    have hq0' : ∀ i, i < (f 8).toNat → w1.cell? ⟨pb, 0 + i * 2, none⟩ = some (.int .i64 (px i)) := fun i hi => by rw [Nat.zero_add, hq0 i hi, (hpp i hi).1]
    have hq1' : ∀ i, i < (f 8).toNat → w1.cell? ⟨pb, 0 + i * 2 + 1, none⟩ = some (.int .i64 (py i)) := fun i hi => by rw [Nat.zero_add, hq1 i hi, (hpp i hi).2]
    rw [hA, hS, hP, hD, hr1, hc]
    generalize (f 8).toNat = n at *
    have HQ0 := hid hq0'
    have HQ1 := hid hq1'
    have HL := hid hL
    have HOK := hid hOK
    have HB1 := hid hB1
    have hG1 := hid (HG.out.below hB1)
    have hD1 : Hid (Dirs w1) := HDR.out.kept (b := w.heap.size) (KeptBut.of_below hB1 (Nat.le_refl _)) (by have := HDR.out.lt; omega)
    clear hq0 hq1 hq0' hq1' hL hOK hz1 hB1 hB0 hok hA hS hP hD hr1 hc hpp
    go_wp2_with (go_at_call 8; refine (accepted_any _ _ _).mono ?_; rintro e w' ⟨rfl, z2, rfl⟩)
    generalize hX : World.ext (World.alloc (World.alloc w1 _) _) z2 = X
    have hXB : Below w1.heap.size w1 X := by rw [← hX]; exact (((Below.rf _).al _).al _).ex _
    have HXB := hid hXB
    have hsX := hXB.size
    have hXD : Dirs X := hD1.out.kept (b := w1.heap.size) (KeptBut.of_below hXB (Nat.le_refl _)) (by have := HDR.out.lt; omega)
    clear hX
    refine (new_good A S P D c n pb n px py X (hG1.out.below hXB) hXD HL.out HOK.out (Nat.le_refl _) (by omega) (fun i hi => by rw [hXB.cell hpb2]; exact HQ0.out i hi) (fun i hi => by rw [hXB.cell hpb2]; exact HQ1.out i hi)).mono ?_
    rintro e w2 ⟨fb, rfl, hfb, hFlo, z3, hw2⟩
    have hB2 : Below X.heap.size X w2 := by rw [hw2]; exact World.below_ext _ _
    have hs2 := hB2.size
    have hB12 : Below w1.heap.size w1 w2 := hXB.trans (hB2.mono hsX)
    rw [← hB12.cell hw1s] at v0 v1
    rw [← World.frozen?_of_block (w' := w2) (hB12.block _ hw1s)] at vf0 vf1
    have HB12 := hid hB12
    have HF := hid hFlo
    clear hB2 hB12 hXB hw2 hFlo hXD
    go_wp2
    have q1 : (w2.setCell ⟨w.heap.size, 0, none⟩ (.int .u8 0)).cell? ⟨w.heap.size, 0, none⟩ = some (.int .u8 0) := World.cell?_setCell_same _ _ _ v0
    have q2 : ((w2.setCell ⟨w.heap.size, 0, none⟩ (.int .u8 0)).setCell ⟨w.heap.size, 1, none⟩ (.int .i64 (0))).cell? ⟨w.heap.size, 1, none⟩ = some (.int .i64 (0)) := World.cell?_setCell_same _ _ _ (u := .int .i64 (0)) (by rw [fld_ne _ _ _ _ _ (by omega)]; exact v1)
    refine bodyPost_ret (v := .tuple #[.pointer (some ⟨fb, 0, none⟩), .agg #[.int .u8 0, .int .i64 (0)]]) (by simp [results, Tryf.results7, go_sem, ↓IntWalk.iteOmega, q1, q2]) rfl (Or.inl ⟨fb, rfl, ?_, ?_⟩)
    · refine HF.out.on (by simp) (fun k hk => ⟨?_, by omega, by simp; omega⟩)
      rw [Below.heap_setCell _ _ _ _ (by simp; omega), Below.heap_setCell _ _ _ _ (by simp; omega)]
    · refine Below.is_ext ?_
      exact (((HB1.out.trans (HB12.out.mono (by omega))).setCell (p := ⟨w.heap.size, 0, none⟩) (by simp) _).setCell (p := ⟨w.heap.size, 1, none⟩) (by simp) _)
end Go.Proofs.Qxb6500715aFmt
