/-
  The numbered floor as one structure; shift, KindAt, passable.
-/
import Derived.Test.Qxb6500715aFmtNumber
namespace Go.Proofs.Qxb6500715aFmt
open Go.RowKit
set_option linter.unusedSimpArgs false
set_option linter.unusedVariables false

/-- The numbers of a floor and of its memory. -/
structure FP where
  fb : Nat
  A : Nat
  S : Nat
  P : Nat
  D : Nat
  c : Nat
  pb : Nat
  cap : Nat
  n : Nat
  W : Nat
  L : Nat
  kb : Nat
  N : Nat
  ib : Nat
  qb : Nat
  qc : Nat
  ab : Nat
  ob : Nat
  kd : Nat → Int
  px : Nat → Nat
  py : Nat → Nat

/-- Is a place drivable; its cell; a cell's place. -/
def FP.dr (F : FP) (i : Nat) : Bool := drv (F.kd i)
def FP.id (F : FP) (i : Nat) : Nat := cnt (fun t => drv (F.kd t)) i
def FP.pl (F : FP) (j : Nat) : Nat := plc (fun t => drv (F.kd t)) F.L j

/-- The kind at a place, 0 outside the grid. -/
def FP.kAt (F : FP) (r q : Int) : Int := if 0 ≤ r ∧ r < (F.S : Int) + 4 ∧ 0 ≤ q ∧ q < (F.W : Int) then F.kd (r.toNat * F.W + q.toNat) else 0
/-- Can a robot cross? -/
def FP.pas (F : FP) (r q r' q' : Int) : Bool := drv (F.kAt r q) && drv (F.kAt r' q') && !(F.kAt r q == 7 && F.kAt r' q' == 7)

/-- A floor, painted and numbered. -/
structure FlN (w : World) (F : FP) : Prop where
  hdr : Hdr w F.fb F.A F.S F.P F.D F.c F.pb F.cap F.n F.W
  lay : LayN F.A F.S F.P F.D F.c F.n F.px F.py
  hL : F.L = F.W * (F.S + 4)
  hLb : F.L ≤ 384
  hWb : 3 ≤ F.W ∧ F.W ≤ 24
  k9 : w.cell? ⟨F.fb, 9, none⟩ = some (.slice (some ⟨F.kb, 0, none⟩) F.L F.L)
  hkb : F.kb < w.heap.size ∧ F.kb ≠ F.fb
  kds : ∀ i, i < F.L → w.cell? ⟨F.kb, i, none⟩ = some (.int .u8 (F.kd i))
  kind : ∀ r q, r < F.S + 4 → q < F.W → F.kd (r * F.W + q) = kind3 F.A F.S F.P F.D F.n F.px F.py r q
  num : Num w F.fb F.W F.L F.N F.n F.c F.ib F.qb F.qc F.ab F.ob F.kd F.px F.py
  ne : F.ib ≠ F.fb ∧ F.qb ≠ F.fb ∧ F.ab ≠ F.fb ∧ F.ob ≠ F.fb
  hpb : F.pb < w.heap.size ∧ F.pb ≠ F.fb ∧ F.n ≤ F.cap
  pc0 : ∀ i, i < F.n → w.cell? ⟨F.pb, 0 + i * 2, none⟩ = some (.int .i64 (F.px i))
  pc1 : ∀ i, i < F.n → w.cell? ⟨F.pb, 0 + i * 2 + 1, none⟩ = some (.int .i64 (F.py i))

theorem FlN.of {w w' : World} {F : FP} (h : FlN w F) (hk : KeptBut F.fb w w') (hc : ∀ j, j ≤ 14 → w'.cell? ⟨F.fb, j, none⟩ = w.cell? ⟨F.fb, j, none⟩) (hf : ∀ j, w'.frozen? ⟨F.fb, j, none⟩ = w.frozen? ⟨F.fb, j, none⟩) : FlN w' F := by
  have hs := hk.size
  have hn := h.num
  obtain ⟨l1, l2, l3, l4⟩ := hn.lt
  obtain ⟨n1, n2, n3, n4⟩ := h.ne
  exact { hdr := h.hdr.of hs (fun j hj => hc j (by omega)) hf, lay := h.lay, hL := h.hL, hLb := h.hLb, hWb := h.hWb, k9 := (hc 9 (by omega)).trans h.k9, hkb := ⟨by have := h.hkb.1; omega, h.hkb.2⟩,
          kds := fun i hi => (hk.cell i h.hkb.1 h.hkb.2).trans (h.kds i hi), kind := h.kind, ne := h.ne, hpb := ⟨by have := h.hpb.1; omega, h.hpb.2⟩,
          pc0 := fun i hi => (hk.cell _ h.hpb.1 h.hpb.2.1).trans (h.pc0 i hi), pc1 := fun i hi => (hk.cell _ h.hpb.1 h.hpb.2.1).trans (h.pc1 i hi),
          num := { hN := hn.hN, i10 := (hc 10 (by omega)).trans hn.i10, i11 := (hc 11 (by omega)).trans hn.i11, i12 := (hc 12 (by omega)).trans hn.i12, i13 := (hc 13 (by omega)).trans hn.i13, i14 := (hc 14 (by omega)).trans hn.i14,
                   lt := ⟨by omega, by omega, by omega, by omega⟩, qc := hn.qc, ids := fun i hi => (hk.cell i l1 n1).trans (hn.ids i hi), pos0 := fun j hj => (hk.cell _ l2 n2).trans (hn.pos0 j hj), pos1 := fun j hj => (hk.cell _ l2 n2).trans (hn.pos1 j hj),
                   park := fun r hr => (hk.cell r l3 n3).trans (hn.park r hr), own := fun j hj => (hk.cell j l4 n4).trans (hn.own j hj) } }

theorem FlN.below {w w' : World} {F : FP} (h : FlN w F) (hb : Below w.heap.size w w') : FlN w' F :=
  h.of (KeptBut.of_below hb (Nat.le_refl _)) (fun j _ => World.cell?_of_block (hb.block _ h.hdr.hfb)) (fun j => World.frozen?_of_block (hb.block _ h.hdr.hfb))
theorem FlN.ex {w : World} {F : FP} (h : FlN w F) (z : World) : FlN (w.ext z) F := h.below (World.below_ext w z)
theorem FlN.al {w : World} {F : FP} (h : FlN w F) (o : Obj) : FlN (w.alloc o) F := h.below ((Below.rf w).al o)

theorem shift_any (r q d : Int) (w : World) (hr : -1000000 ≤ r ∧ r ≤ 1000000) (hq : -1000000 ≤ q ∧ q ≤ 1000000) :
    Calls Tryf.prog 73 #[.agg #[.int .i64 (r), .int .i64 (q)], .int .i64 (d)] w fun e w' => e = .returned (.agg #[.int .i64 ((sh r q d).1), .int .i64 ((sh r q d).2)]) ∧ ∃ z, w' = w.ext z := by
  by_cases h1 : d = 1
  · subst h1
    go_enter Tryf.func73, Tryf.ntmps73
    go_wp2
    refine bodyPost_ret (v := .agg #[.int .i64 (r - 1), .int .i64 (q)]) (by simp [results, Tryf.results73, go_sem, ↓IntWalk.iteOmega]) rfl ⟨by simp [sh], ?_⟩
    refine Below.is_ext ?_
    repeat (first | with_reducible exact Below.rf _ | with_reducible exact World.below_ext _ _ | with_reducible refine Below.ex ?_ _ | with_reducible refine Below.al ?_ _ | with_reducible refine Below.setCell ?_ (by simp) _ | with_reducible refine Below.drew ?_)
  by_cases h4 : d = 4
  · subst h4
    go_enter Tryf.func73, Tryf.ntmps73
    go_wp2
    refine bodyPost_ret (v := .agg #[.int .i64 (r + 1), .int .i64 (q)]) (by simp [results, Tryf.results73, go_sem, ↓IntWalk.iteOmega]) rfl ⟨by simp [sh], ?_⟩
    refine Below.is_ext ?_
    repeat (first | with_reducible exact Below.rf _ | with_reducible exact World.below_ext _ _ | with_reducible refine Below.ex ?_ _ | with_reducible refine Below.al ?_ _ | with_reducible refine Below.setCell ?_ (by simp) _ | with_reducible refine Below.drew ?_)
  by_cases h2 : d = 2
  · subst h2
    go_enter Tryf.func73, Tryf.ntmps73
    go_wp2
    refine bodyPost_ret (v := .agg #[.int .i64 (r), .int .i64 (q - 1)]) (by simp [results, Tryf.results73, go_sem, ↓IntWalk.iteOmega]) rfl ⟨by simp [sh], ?_⟩
    refine Below.is_ext ?_
    repeat (first | with_reducible exact Below.rf _ | with_reducible exact World.below_ext _ _ | with_reducible refine Below.ex ?_ _ | with_reducible refine Below.al ?_ _ | with_reducible refine Below.setCell ?_ (by simp) _ | with_reducible refine Below.drew ?_)
  by_cases h3 : d = 3
  · subst h3
    go_enter Tryf.func73, Tryf.ntmps73
    go_wp2
    refine bodyPost_ret (v := .agg #[.int .i64 (r), .int .i64 (q + 1)]) (by simp [results, Tryf.results73, go_sem, ↓IntWalk.iteOmega]) rfl ⟨by simp [sh], ?_⟩
    refine Below.is_ext ?_
    repeat (first | with_reducible exact Below.rf _ | with_reducible exact World.below_ext _ _ | with_reducible refine Below.ex ?_ _ | with_reducible refine Below.al ?_ _ | with_reducible refine Below.setCell ?_ (by simp) _ | with_reducible refine Below.drew ?_)
  · have b1 : (d == 1) = false := by simpa using h1
    have b2 : (d == 2) = false := by simpa using h2
    have b3 : (d == 3) = false := by simpa using h3
    have b4 : (d == 4) = false := by simpa using h4
    go_enter Tryf.func73, Tryf.ntmps73
    go_wp2
    refine bodyPost_ret (v := .agg #[.int .i64 (r), .int .i64 (q)]) (by simp [results, Tryf.results73, go_sem, ↓IntWalk.iteOmega]) rfl ⟨by simp [sh, h1, h2, h3, h4], ?_⟩
    refine Below.is_ext ?_
    repeat (first | with_reducible exact Below.rf _ | with_reducible exact World.below_ext _ _ | with_reducible refine Below.ex ?_ _ | with_reducible refine Below.al ?_ _ | with_reducible refine Below.setCell ?_ (by simp) _ | with_reducible refine Below.drew ?_)

theorem shift_is (r q d a b : Int) (w : World) (hr : -1000000 ≤ r ∧ r ≤ 1000000) (hq : -1000000 ≤ q ∧ q ≤ 1000000) (h : sh r q d = (a, b)) :
    Calls Tryf.prog 73 #[.agg #[.int .i64 (r), .int .i64 (q)], .int .i64 (d)] w fun e w' => e = .returned (.agg #[.int .i64 (a), .int .i64 (b)]) ∧ ∃ z, w' = w.ext z := by
  have := shift_any r q d w hr hq
  rwa [h] at this

set_option maxHeartbeats 1000000 in
theorem kindAt_any (F : FP) (r q : Int) (w : World) (h : FlN w F) :
    Calls Tryf.prog 37 #[.pointer (some ⟨F.fb, 0, none⟩), .agg #[.int .i64 (r), .int .i64 (q)]] w fun e w' => e = .returned (.int .u8 (F.kAt r q)) ∧ ∃ z, w' = w.ext z := by
  have HH := hid h
  obtain ⟨hfb, hW, h0, h1, h2, h3, h4, h5, h6, h7, h8, fz⟩ := h.hdr
  have hA := h.lay.hA
  have hS := h.lay.hS
  have hWb := h.hWb
  have k9 := h.k9
  have hWi : ((F.A : Int) - 1) * F.P + 3 = F.W := by
    rw [hW, Int.natCast_add, Int.natCast_mul, Int.natCast_sub (by omega)]; rfl
  obtain ⟨g, hg⟩ : ∃ g, inGrid F.A F.S F.P r q = g := ⟨_, rfl⟩
  have hp : -1000000 ≤ ((F.A : Int) - 1) * F.P ∧ ((F.A : Int) - 1) * F.P ≤ 1000000 := by omega
  have HW := hid hW
  have HWI := hid hWi
  clear h hW hWi fz
  cases g with
  | false =>
    go_enter Tryf.func37, Tryf.ntmps37
    go_wp2
    first | with_reducible refine wp_region_ext2 (by kernel_rfl) (by kernel_rfl) ?_ | refine wp_region_ext (by kernel_rfl) (by kernel_rfl) ?_
    repeat (go_big_quiet_step ((go_at_call 62; exact Calls.ext_of (Calls.tf (inGrid_any _ _ _ _ _ _ _ _ _ _ (by omega) (by omega) hp) hg))))
    refine wpQuiet_nil ?_
    rintro _ ⟨z, rfl⟩
    go_wp2
    go_ret
    refine ⟨?_, (((Below.rf w).al _).ex _).is_ext⟩
    have : ¬ (0 ≤ r ∧ r < (F.S : Int) + 4 ∧ 0 ≤ q ∧ q < (F.W : Int)) := by
      rintro ⟨a, b, c, d⟩
      have : inGrid F.A F.S F.P r q = true := by simp [inGrid]; rw [HWI.out]; omega
      rw [this] at hg; cases hg
    show Ending.returned (.int .u8 0) = _
    rw [FP.kAt, if_neg this]
  | true =>
    have hin : 0 ≤ r ∧ r < (F.S : Int) + 4 ∧ 0 ≤ q ∧ q < (F.W : Int) := by
      simp [inGrid] at hg; rw [HWI.out] at hg; omega
    obtain ⟨rn, rfl⟩ : ∃ n : Nat, r = n := ⟨r.toNat, by omega⟩
    obtain ⟨qn, rfl⟩ : ∃ n : Nat, q = n := ⟨q.toNat, by omega⟩
    obtain ⟨rw, hrw⟩ : ∃ x, x = rn * F.W := ⟨_, rfl⟩
    have e1 : (rn : Int) * (F.W : Int) = rw := by rw [hrw]; exact (Int.natCast_mul _ _).symm
    have hlt : rw + qn < F.L := by
      have h1 : (rn + 1) * F.W ≤ (F.S + 4) * F.W := Nat.mul_le_mul_right _ (by omega)
      rw [Nat.add_mul, Nat.one_mul, ← hrw, Nat.mul_comm (F.S + 4), ← HH.out.hL] at h1
      omega
    have hLb := HH.out.hLb
    have hkb := HH.out.hkb
    have ck := HH.out.kds _ hlt
    have HK : Hid (F.kAt (rn : Int) (qn : Int) = F.kd (rw + qn)) := by
      show F.kAt (rn : Int) (qn : Int) = F.kd (rw + qn)
      rw [FP.kAt, if_pos hin, Int.toNat_natCast, Int.toNat_natCast, hrw]
    clear hrw
    go_enter Tryf.func37, Tryf.ntmps37
    go_wp2
    first | with_reducible refine wp_region_ext2 (by kernel_rfl) (by kernel_rfl) ?_ | refine wp_region_ext (by kernel_rfl) (by kernel_rfl) ?_
    repeat (go_big_quiet_step ((go_at_call 62; exact Calls.ext_of (Calls.tf (inGrid_any _ _ _ _ _ _ _ _ _ _ (by omega) (by omega) hp) hg))))
    refine wpQuiet_nil ?_
    rintro _ ⟨z, rfl⟩
    go_wp2
    first | with_reducible refine wp_region_ext2 (by kernel_rfl) (by kernel_rfl) ?_ | refine wp_region_ext (by kernel_rfl) (by kernel_rfl) ?_
    repeat (go_big_quiet_step ((go_at_call 21; exact Calls.ext_of (index_any F.fb F.W rn _ _ (by (first | omega | (simp only [World.size_ext, World.size_alloc, World.size_setCell, World.size_drew, Array.size_append]; done) | (simp only [World.size_ext, World.size_alloc, World.size_setCell, World.size_drew, Array.size_append]; omega))) (by simp [go_sem, ↓IntWalk.iteOmega]; exact h7) (by omega) (by omega)))))
    refine wpQuiet_nil ?_
    rintro _ ⟨z, rfl⟩
    go_wp2
    go_ret
    refine ⟨?_, ?_⟩
    · show Ending.returned (.int .u8 (F.kd (rw + qn))) = _
      rw [HK.out]
    refine Below.is_ext ?_
    repeat (first | with_reducible exact Below.rf _ | with_reducible exact World.below_ext _ _ | with_reducible refine Below.ex ?_ _ | with_reducible refine Below.al ?_ _ | with_reducible refine Below.setCell ?_ (by simp) _ | with_reducible refine Below.drew ?_)

theorem kindAt_is (F : FP) (r q a : Int) (w : World) (h : FlN w F) (ha : F.kAt r q = a) :
    Calls Tryf.prog 37 #[.pointer (some ⟨F.fb, 0, none⟩), .agg #[.int .i64 (r), .int .i64 (q)]] w fun e w' => e = .returned (.int .u8 a) ∧ ∃ z, w' = w.ext z := ha ▸ kindAt_any F r q w h

set_option maxRecDepth 20000 in
set_option maxHeartbeats 1000000 in
theorem passable_any (F : FP) (r q r' q' : Int) (w : World) (h : FlN w F) :
    Calls Tryf.prog 74 #[.pointer (some ⟨F.fb, 0, none⟩), .agg #[.int .i64 (r), .int .i64 (q)], .agg #[.int .i64 (r'), .int .i64 (q')]] w fun e w' => e = .returned (.bool (F.pas r q r' q')) ∧ ∃ z, w' = w.ext z := by
  have HH := hid h
  clear h
  obtain ⟨a, ha⟩ : ∃ a, F.kAt r q = a := ⟨_, rfl⟩
  obtain ⟨b, hb⟩ : ∃ b, F.kAt r' q' = b := ⟨_, rfl⟩
  have hp : F.pas r q r' q' = (drv a && drv b && !(a == 7 && b == 7)) := by rw [FP.pas, ha, hb]
  rw [hp]
  have HA := hid ha
  have HB := hid hb
  clear ha hb hp
  go_enter Tryf.func74, Tryf.ntmps74
  go_wp2
  first | with_reducible refine wp_region_ext2 (by kernel_rfl) (by kernel_rfl) ?_ | refine wp_region_ext (by kernel_rfl) (by kernel_rfl) ?_
  repeat (go_big_quiet_step ((go_at_call 37; first | with_reducible exact Calls.ext_of (kindAt_is F r q a _ (((HH.out.al _).al _).ex _) HA.out) | with_reducible exact Calls.ext_of (kindAt_is F r' q' b _ (((HH.out.al _).al _).ex _) HB.out))))
  refine wpQuiet_nil ?_
  rintro _ ⟨z, rfl⟩
  rcases Bool.eq_false_or_eq_true (drv a) with da | da <;> rcases Bool.eq_false_or_eq_true (drv b) with db | db
  all_goals
    go_wp2_with (go_at_call 19; first | (with_reducible refine (Calls.tf (drivable_any a _) da).mono ?_; rintro e w' ⟨rfl, rfl⟩) | (with_reducible refine (Calls.tf (drivable_any b _) db).mono ?_; rintro e w' ⟨rfl, rfl⟩))
  all_goals
    go_ret
    refine ⟨ret_bool ?_, ((((Below.rf w).al _).al _).ex _).is_ext⟩
    clear HA HB HH
    rw [da, db]
    first
    | rfl
    | (cases hb7 : (b == 7) <;> cases ha7 : (a == 7) <;> simp_all [bne])
end Go.Proofs.Qxb6500715aFmt
