/-
  paint: what stands where.
-/
import Derived.Test.Qxb6500715aFmtClone
import Derived.Test.Qxb6500715aFmtFloor1
import Derived.Test.Qxb6500715aFmtGrid
import Derived.Deep.WholeRow
namespace Go.Proofs.Qxb6500715aFmt
open Go.RowKit
set_option linter.unusedSimpArgs false
set_option linter.unusedVariables false

/-- A floor's block: the layout, the width, the height. -/
structure Hdr (w : World) (fb A S P D c pb cap n W : Nat) : Prop where
  hfb : fb < w.heap.size
  hW : W = (A - 1) * P + 3
  h0 : w.cell? ⟨fb, 0, none⟩ = some (.int .i64 (A))
  h1 : w.cell? ⟨fb, 1, none⟩ = some (.int .i64 (S))
  h2 : w.cell? ⟨fb, 2, none⟩ = some (.int .i64 (P))
  h3 : w.cell? ⟨fb, 3, none⟩ = some (.int .i64 (D))
  h4 : w.cell? ⟨fb, 4, none⟩ = some (.int .i64 (1))
  h5 : w.cell? ⟨fb, 5, none⟩ = some (.int .i64 (c))
  h6 : w.cell? ⟨fb, 6, none⟩ = some (.slice (some ⟨pb, 0, none⟩) n cap)
  h7 : w.cell? ⟨fb, 7, none⟩ = some (.int .i64 (W))
  h8 : w.cell? ⟨fb, 8, none⟩ = some (.int .i64 ((S : Int) + 4))
  fz : ∀ i, w.frozen? ⟨fb, i, none⟩ = false

/-- A layout in naturals. -/
structure LayN (A S P D c n : Nat) (px py : Nat → Nat) : Prop where
  hA : 1 ≤ A ∧ A ≤ 8
  hS : 1 ≤ S ∧ S ≤ 12
  hP : P = 2 ∨ P = 3
  hD : 1 ≤ D ∧ D ≤ 2
  hn : 1 ≤ n ∧ n ≤ 6
  hc : c < (A - 1) * P + 3
  hx : ∀ i, i < n → (px i = 0 ∨ px i = S + 3) ∧ py i < (A - 1) * P + 3
  hne : ∀ i j, j < i → i < n → ¬ (px j = px i ∧ py j = py i)

theorem wrapped (L : Nat) (h : L ≤ 9223372036854775807) : IntKind.i64.wrap (L : Int) = L := by
  simp [IntKind.wrap, IntKind.signed, IntKind.bits]; omega

theorem Hdr.set {w : World} {fb A S P D c pb cap n W : Nat} (h : Hdr w fb A S P D c pb cap n W) (i : Nat) (hi : 9 ≤ i) (v : Value) : Hdr (w.setCell ⟨fb, i, none⟩ v) fb A S P D c pb cap n W := by
  have ne : ∀ j, j < 9 → (⟨fb, i, none⟩ : Addr) ≠ ⟨fb, j, none⟩ := fun j hj => by simp only [ne_eq, Addr.mk.injEq, true_and, and_true]; omega
  obtain ⟨hfb, hW, h0, h1, h2, h3, h4, h5, h6, h7, h8, fz⟩ := h
  exact ⟨by simpa using hfb, hW, by rw [World.cell?_setCell_other _ _ _ _ (ne 0 (by omega))]; exact h0, by rw [World.cell?_setCell_other _ _ _ _ (ne 1 (by omega))]; exact h1, by rw [World.cell?_setCell_other _ _ _ _ (ne 2 (by omega))]; exact h2,
    by rw [World.cell?_setCell_other _ _ _ _ (ne 3 (by omega))]; exact h3, by rw [World.cell?_setCell_other _ _ _ _ (ne 4 (by omega))]; exact h4, by rw [World.cell?_setCell_other _ _ _ _ (ne 5 (by omega))]; exact h5,
    by rw [World.cell?_setCell_other _ _ _ _ (ne 6 (by omega))]; exact h6, by rw [World.cell?_setCell_other _ _ _ _ (ne 7 (by omega))]; exact h7, by rw [World.cell?_setCell_other _ _ _ _ (ne 8 (by omega))]; exact h8, fun j => by simpa using fz j⟩

/-- 'x[lo:hi]' of a slice of one-cell elements. -/
theorem slice_lh {P : Program} (t e : TypeId) (ht : P.underlying t = some (.slice e)) (bytes : Nat) (z : Value) (hinfo : (P.info? e).map (fun i => (i.zero, i.size, i.bytes)) = some (some z, 1, bytes)) (b off len cap lo hi : Nat) (x y : Int) (hx : x = lo) (hy : y = hi) (h1 : lo ≤ hi) (h2 : hi ≤ cap) (h3 : lo < cap) (w : World) :
    (Instr.sliceAt t (.slice (some ⟨b, off, none⟩) len cap) (some (.int .i64 x)) (some (.int .i64 y)) none).run P w = .ok (.slice (some ⟨b, off + lo, none⟩) (hi - lo) (cap - lo)) w := by
  have he : P.elem t = e := by simp [Program.elem, ht]
  have ht' : P.underlying t = some (.slice (P.elem t)) := by rw [he]; exact ht
  obtain ⟨i, hi, hz0, hz1, hz2⟩ := info_parts hinfo
  subst hx hy
  rw [run_sliceAt_slice _ _ _ _ _ _ ht', run_slice_lh _ _ _ _ _ ht' _ _ _ _ (by omega) (by omega) (by omega)]
  have hsz : (sizeOf (P.elem t)).run P w = .ok 1 w := by rw [he]; simp [sizeOf, typeInfo, go_sem, hi, hz1]
  rw [hsz]
  simp only [Result.andThen, sliced, Int.toNat_natCast]
  rw [if_neg (by omega)]
  simp [Addr.add_lit]

theorem setRow_tower (X z : World) (Y Y' : Array Value) (t : TypeId) (kb : Nat) (h : kb = X.heap.size) : ((X.alloc (.cells Y t)).ext z).setRow kb Y' = (X.alloc (.cells Y' t)).ext z := by
  subst h
  rw [setRow_ext _ _ _ _ (by simp), World.setRow_alloc_new]

theorem heap_tower (X z : World) (Y : Array Value) (t : TypeId) (kb : Nat) (h : kb = X.heap.size) : ((X.alloc (.cells Y t)).ext z).heap[kb]? = some (.cells Y t) := by
  subst h
  rw [World.block_ext _ _ _ (by simp)]
  exact (MapKept.heap_alloc X _).1

theorem rows_fill (S W k a1 : Nat) (v : Int) (Y Y' : Array Value) (ha : a1 = k * W) (hv : v = kind1 S k) (hY : ∀ r q, r < k → q < W → Y[r * W + q]? = some (.int .u8 (kind1 S r)))
    (hg : ∀ i : Nat, Y'[i]? = if a1 ≤ i ∧ i < a1 + W then some (.int .u8 v) else Y[i]?) : ∀ r q, r < k + 1 → q < W → Y'[r * W + q]? = some (.int .u8 (kind1 S r)) := by
  intro r q hr hq
  rw [hg]
  by_cases h : r = k
  · subst h hv ha
    rw [if_pos ⟨by omega, by omega⟩]
  · have h1 : (r + 1) * W ≤ k * W := Nat.mul_le_mul_right W (by omega)
    rw [Nat.add_mul, Nat.one_mul] at h1
    rw [if_neg (by omega)]
    exact hY r q (by omega) hq

theorem idx_inj {W r q r0 q0 : Nat} (hq : q < W) (hq0 : q0 < W) : r0 * W + q0 = r * W + q ↔ r = r0 ∧ q = q0 := by
  constructor
  · intro h
    rcases Nat.lt_trichotomy r r0 with h1 | h1 | h1
    · have := Nat.mul_le_mul_right W (show r + 1 ≤ r0 by omega)
      rw [Nat.add_mul, Nat.one_mul] at this
      omega
    · subst h1; omega
    · have := Nat.mul_le_mul_right W (show r0 + 1 ≤ r by omega)
      rw [Nat.add_mul, Nat.one_mul] at this
      omega
  · rintro ⟨rfl, rfl⟩; rfl

/-- One place of the grid painted anew. -/
theorem grid_set {H W L r0 q0 i : Nat} {Y : Array Value} {g : Nat → Nat → Int} (v : Int) (hL : L = W * H) (hY : Y.size = L) (hr0 : r0 < H) (hq0 : q0 < W) (hi : i = r0 * W + q0)
    (hg : ∀ r q, r < H → q < W → Y[r * W + q]? = some (.int .u8 (g r q))) :
    ∀ r q, r < H → q < W → (Y.setIfInBounds i (.int .u8 v))[r * W + q]? = some (.int .u8 (if r = r0 ∧ q = q0 then v else g r q)) := by
  intro r q hr hq
  have hlt : r0 * W + q0 < Y.size := by
    have h1 : (r0 + 1) * W ≤ H * W := Nat.mul_le_mul_right W (by omega)
    rw [Nat.add_mul, Nat.one_mul, Nat.mul_comm H W, ← hL] at h1
    omega
  subst hi
  rw [Array.getElem?_setIfInBounds]
  by_cases h : r = r0 ∧ q = q0
  · rw [if_pos ((idx_inj hq hq0).2 h), if_pos hlt, if_pos h]
  · rw [if_neg (fun h' => h ((idx_inj hq hq0).1 h')), if_neg h]
    exact hg r q hr hq

set_option maxRecDepth 20000 in
set_option maxHeartbeats 2000000 in
theorem paint_any (fb A S P D c pb cap n W : Nat) (px py : Nat → Nat) (k0 : Value) (w : World) (hH : Hdr w fb A S P D c pb cap n W) (hL : LayN A S P D c n px py) (hnc : n ≤ cap) (hpb : pb < w.heap.size) (hpf : fb ≠ pb) (hk0 : w.cell? ⟨fb, 9, none⟩ = some k0)
    (hc0 : ∀ i, i < n → w.cell? ⟨pb, 0 + i * 2, none⟩ = some (.int .i64 (px i))) (hc1 : ∀ i, i < n → w.cell? ⟨pb, 0 + i * 2 + 1, none⟩ = some (.int .i64 (py i))) :
    Calls Tryf.prog 50 #[.pointer (some ⟨fb, 0, none⟩)] w fun e w' => e = .returned (.tuple #[]) ∧ ∃ kb, w.heap.size ≤ kb ∧ kb < w'.heap.size ∧
      (∀ r q, r < S + 4 → q < W → w'.cell? ⟨kb, r * W + q, none⟩ = some (.int .u8 (kind3 A S P D n px py r q))) ∧ ∃ z, w' = (w.setCell ⟨fb, 9, none⟩ (.slice (some ⟨kb, 0, none⟩) (W * (S + 4)) (W * (S + 4)))).ext z := by
  have HL := hid hL
  have HH := hid hH
  obtain ⟨hfb, hW, h0, h1, h2, h3, h4, h5, h6, h7, h8, fz⟩ := hH
  have f9 := fz 9
  have hA := hL.hA
  have hS := hL.hS
  have HW := hid hW
  have hWb : 3 ≤ W ∧ W ≤ 24 := by
    rcases hL.hP with h | h <;> rw [h] at hW <;> omega
  obtain ⟨L, hLL⟩ : ∃ L, L = W * (S + 4) := ⟨_, rfl⟩
  have hLb : L ≤ 384 := by
    have : W * (S + 4) ≤ 24 * 16 := Nat.mul_le_mul (by omega) (by omega)
    omega
  have hmul : (W : Int) * ((S : Int) + 4) = (L : Int) := by rw [hLL]; exact (Int.natCast_mul W (S + 4)).symm
  have hwr : IntKind.i64.wrap (L : Int) = L := wrapped L (by omega)
  obtain ⟨Z, hZ, -, hmk⟩ := make_is (P := Tryf.prog) 51 59 (.int .u8 0) 1 1 Tryf.underlying51 (by kernel_rfl) L (by omega) (by omega)
  rw [← hLL]
  have HLL := hid hLL
  clear hL hW fz hLL
  go_enter Tryf.func50, Tryf.ntmps50
  go_wp2_with (go_at_call 71; refine (backRow_any _ _ _ _ _ _ _ _ (by omega)).mono ?_; rintro e w' ⟨rfl, z0, rfl⟩)
  have g1 : ¬ fb = w.heap.size + z0.heap.size := by omega
  have g2 : fb < w.heap.size + z0.heap.size := by omega
  go_region_held3 (fun w' => w'.cell? ⟨fb, 7, none⟩ = some (.int .i64 (W)) ∧ w'.cell? ⟨fb, 8, none⟩ = some (.int .i64 ((S : Int) + 4))) (simp [go_sem, ↓IntWalk.iteOmega, *]) (fail)
  have hH1 := HH.out.set 9 (by omega) (.slice (some ⟨(w.heap.size + z0.heap.size), 0, none⟩) L L)
  have k1 : (w.setCell ⟨fb, 9, none⟩ (.slice (some ⟨(w.heap.size + z0.heap.size), 0, none⟩) L L)).cell? ⟨fb, 9, none⟩ = some (.slice (some ⟨(w.heap.size + z0.heap.size), 0, none⟩) L L) := World.cell?_setCell_same _ _ _ hk0
  have HC0 : Hid (∀ i, i < n → (w.setCell ⟨fb, 9, none⟩ (.slice (some ⟨(w.heap.size + z0.heap.size), 0, none⟩) L L)).cell? ⟨pb, 0 + i * 2, none⟩ = some (.int .i64 (px i))) := fun i hi => by rw [World.cell?_setCell_far _ _ _ _ hpf]; exact hc0 i hi
  have HC1 : Hid (∀ i, i < n → (w.setCell ⟨fb, 9, none⟩ (.slice (some ⟨(w.heap.size + z0.heap.size), 0, none⟩) L L)).cell? ⟨pb, 0 + i * 2 + 1, none⟩ = some (.int .i64 (py i))) := fun i hi => by rw [World.cell?_setCell_far _ _ _ _ hpf]; exact hc1 i hi
  clear hc0 hc1 h0 h1 h2 h3 h4 h5 h6 h7 h8 hk0 f9 hmk HH
  generalize hw1 : w.setCell ⟨fb, 9, none⟩ (.slice (some ⟨(w.heap.size + z0.heap.size), 0, none⟩) L L) = w1 at *
  have hs1 : w1.heap.size = w.heap.size := by rw [← hw1]; simp
  have HW1 := hid hw1
  have HH1 := hid hH1
  obtain ⟨x1, x2, h0, h1, h2, h3, h4, h5, h6, h7, h8, x3⟩ := hH1
  clear hw1 x1 x2 x3
  go_wp2
  go_loopw [3] (fun i w' => ∃ (k : Nat) (Y : Array Value), k ≤ S + 4 ∧ i = .int .i64 (k) ∧ Y.size = L ∧ (∀ r q, r < k → q < W → Y[r * W + q]? = some (.int .u8 (kind1 S r))) ∧ ∃ z, w' = ((w1.ext z0.drew).alloc (.cells Y 59)).ext z) (fun i _ => S + 4 - (intOf i).toNat)
  case atStart => exact ⟨0, Z, Nat.zero_le _, rfl, by omega, fun r q hr => by omega, (Below.rf _).is_ext⟩
  case round =>
    obtain ⟨k, Y, hk, rfl, hY, hyk, z, rfl⟩ := hrel
    have HY := hid hyk
    clear hyk
    by_cases hlt : k < S + 4
    · obtain ⟨a1, ha1⟩ : ∃ a1, a1 = k * W := ⟨_, rfl⟩
      have e1 : (k : Int) * (W : Int) = a1 := by rw [ha1]; exact (Int.natCast_mul _ _).symm
      have e2 : ((k : Int) + 1) * (W : Int) = a1 + W := by rw [Int.add_mul, e1, Int.one_mul]
      have hle : a1 + W ≤ L := by
        have h1 : (k + 1) * W ≤ (S + 4) * W := Nat.mul_le_mul_right W (by omega)
        rw [Nat.add_mul, Nat.one_mul, ← ha1, Nat.mul_comm (S + 4) W, ← HLL.out] at h1
        exact h1
      have hle2 : (a1 : Int) + W ≤ L := by omega
      have hle3 : (a1 : Int) ≤ a1 + W := by omega
      have hle4 : a1 ≤ a1 + W := by omega
      have hw2 : IntKind.i64.wrap (a1 : Int) = a1 := wrapped a1 (by omega)
      have hw3 : IntKind.i64.wrap ((a1 : Int) + W) = a1 + W := wrapped (a1 + W) (by omega)
      have hle5 : ¬ ((a1 : Int) + W < a1) := by omega
      have hle6 : ((a1 : Int) + W).toNat = a1 + W := by omega
      have hle7 : ¬ ((L : Int) < a1 + W) := by omega
      have hle8 : ¬ (L = a1) := by omega
      have hle9 : (0 : Int) ≤ a1 := by omega
      have hle10 : a1 + W - a1 = W := by omega
      have hsl : ∀ w', (Instr.sliceAt 51 (.slice (some ⟨(w.heap.size + z0.heap.size), 0, none⟩) L L) (some (.int .i64 (a1))) (some (.int .i64 ((a1 : Int) + W))) none).run Tryf.prog w' = .ok (.slice (some ⟨(w.heap.size + z0.heap.size), a1, none⟩) W (L - a1)) w' := fun w' => by
        have := slice_lh (P := Tryf.prog) 51 59 Tryf.underlying51 1 (.int .u8 0) (by kernel_rfl) (w.heap.size + z0.heap.size) 0 L L a1 (a1 + W) a1 (a1 + W) rfl (by omega) (by omega) hle (by omega) w'
        rw [hle10, Nat.zero_add] at this
        exact this
      have HA1 := hid ha1
      clear ha1
      go_wp2
      first | with_reducible refine wp_region_ext2 (by kernel_rfl) (by kernel_rfl) ?_ | refine wp_region_ext (by kernel_rfl) (by kernel_rfl) ?_
      repeat (go_big_quiet_step (fail))
      refine wpQuiet_nil ?_
      rintro _ ⟨z, rfl⟩
      rcases Bool.eq_false_or_eq_true ((k : Int) == 1) with b1 | b1
      · have b1' : k = 1 := by simp at b1; omega
        go_wp2_with fail
        refine (fill_any (w.heap.size + z0.heap.size) a1 W (L - a1) 5 Y _ (heap_tower _ _ _ _ _ (by simp; omega)) (by omega) (by omega) (by omega)).mono ?_
        rintro e w' ⟨rfl, Y', hs', hg', hw'⟩
        rw [setRow_tower _ _ _ _ _ _ (by simp; omega)] at hw'
        have HGG := hid hg'
        clear hg'
        subst hw'
        go_wp2
        go_roundw
        case rel => exact ⟨k + 1, Y', by omega, by go_num, hs'.trans hY, rows_fill S W k a1 5 Y Y' HA1.out (by simp only [kind1]; repeat (first | rw [if_pos (by omega)] | rw [if_neg (by omega)])) HY.out HGG.out, ⟨_, rfl⟩⟩
        case measure => simp [intOf]; omega
      · have b1' : k ≠ 1 := by simp at b1; omega
        rcases Bool.eq_false_or_eq_true ((k : Int) == S + 2) with b2 | b2
        · have b2' : k = S + 2 := by simp at b2; omega
          go_wp2_with fail
          refine (fill_any (w.heap.size + z0.heap.size) a1 W (L - a1) 6 Y _ (heap_tower _ _ _ _ _ (by simp; omega)) (by omega) (by omega) (by omega)).mono ?_
          rintro e w' ⟨rfl, Y', hs', hg', hw'⟩
          rw [setRow_tower _ _ _ _ _ _ (by simp; omega)] at hw'
          have HGG := hid hg'
          clear hg'
          subst hw'
          go_wp2
          go_roundw
          case rel => exact ⟨k + 1, Y', by omega, by go_num, hs'.trans hY, rows_fill S W k a1 6 Y Y' HA1.out (by simp only [kind1]; repeat (first | rw [if_pos (by omega)] | rw [if_neg (by omega)])) HY.out HGG.out, ⟨_, rfl⟩⟩
          case measure => simp [intOf]; omega
        · have b2' : k ≠ S + 2 := by simp at b2; omega
          rcases Nat.lt_or_ge 1 k with b3 | b3
          · rcases Nat.lt_or_ge k (S + 2) with b4 | b4
            · have b5 : decide ((k : Int) < S + 2) = true := by simp; omega
              go_wp2_with fail
              refine (fill_any (w.heap.size + z0.heap.size) a1 W (L - a1) 2 Y _ (heap_tower _ _ _ _ _ (by simp; omega)) (by omega) (by omega) (by omega)).mono ?_
              rintro e w' ⟨rfl, Y', hs', hg', hw'⟩
              rw [setRow_tower _ _ _ _ _ _ (by simp; omega)] at hw'
              have HGG := hid hg'
              clear hg'
              subst hw'
              go_wp2
              go_roundw
              case rel => exact ⟨k + 1, Y', by omega, by go_num, hs'.trans hY, rows_fill S W k a1 2 Y Y' HA1.out (by simp only [kind1]; repeat (first | rw [if_pos (by omega)] | rw [if_neg (by omega)])) HY.out HGG.out, ⟨_, rfl⟩⟩
              case measure => simp [intOf]; omega
            · have b5 : decide ((k : Int) < S + 2) = false := by simp; omega
              go_wp2_with fail
              refine (fill_any (w.heap.size + z0.heap.size) a1 W (L - a1) 1 Y _ (heap_tower _ _ _ _ _ (by simp; omega)) (by omega) (by omega) (by omega)).mono ?_
              rintro e w' ⟨rfl, Y', hs', hg', hw'⟩
              rw [setRow_tower _ _ _ _ _ _ (by simp; omega)] at hw'
              have HGG := hid hg'
              clear hg'
              subst hw'
              go_wp2
              go_roundw
              case rel => exact ⟨k + 1, Y', by omega, by go_num, hs'.trans hY, rows_fill S W k a1 1 Y Y' HA1.out (by simp only [kind1]; repeat (first | rw [if_pos (by omega)] | rw [if_neg (by omega)])) HY.out HGG.out, ⟨_, rfl⟩⟩
              case measure => simp [intOf]; omega
          · go_wp2_with fail
            refine (fill_any (w.heap.size + z0.heap.size) a1 W (L - a1) 1 Y _ (heap_tower _ _ _ _ _ (by simp; omega)) (by omega) (by omega) (by omega)).mono ?_
            rintro e w' ⟨rfl, Y', hs', hg', hw'⟩
            rw [setRow_tower _ _ _ _ _ _ (by simp; omega)] at hw'
            have HGG := hid hg'
            clear hg'
            subst hw'
            go_wp2
            go_roundw
            case rel => exact ⟨k + 1, Y', by omega, by go_num, hs'.trans hY, rows_fill S W k a1 1 Y Y' HA1.out (by simp only [kind1]; repeat (first | rw [if_pos (by omega)] | rw [if_neg (by omega)])) HY.out HGG.out, ⟨_, rfl⟩⟩
            case measure => simp [intOf]; omega
    · have hk4 : k = S + 4 := by omega
      have HY2 : Hid (∀ r q, r < S + 4 → q < W → Y[r * W + q]? = some (.int .u8 (kind2 S P D 0 2 r q))) := fun r q hr hq => by
        rw [kind2_start S P D r q HL.out.hP]; exact HY.out r q (by omega) hq
      have HK4 := hid hk4
      clear hk4
      clear HY
      go_wp2
      go_loopw [5] (fun i w' => ∃ (k : Nat) (Y : Array Value), k ≤ A ∧ i = .int .i64 (k) ∧ Y.size = L ∧ (∀ r q, r < S + 4 → q < W → Y[r * W + q]? = some (.int .u8 (kind2 S P D k 2 r q))) ∧ ∃ z, w' = ((w1.ext z0.drew).alloc (.cells Y 59)).ext z) (fun i _ => A - (intOf i).toNat)
      case atStart => exact ⟨0, Y, Nat.zero_le _, rfl, hY, HY2.out, ⟨_, rfl⟩⟩
      case round =>
        clear HY2
        obtain ⟨k, Y, hk, rfl, hY, hyk, z, rfl⟩ := hrel
        have HY := hid hyk
        clear hyk
        by_cases hlt : k < A
        · obtain ⟨kp, hkp⟩ : ∃ kp, kp = k * P := ⟨_, rfl⟩
          have e1 : (k : Int) * (P : Int) = kp := by rw [hkp]; exact (Int.natCast_mul _ _).symm
          have hkp2 : kp + 3 ≤ W := by
            have h1 : k * P ≤ (A - 1) * P := Nat.mul_le_mul_right P (by omega)
            have := HW.out
            omega
          have HKP := hid hkp
          clear hkp
          have ba : decide ((k : Int) < A) = true := by simp; omega
          go_wp2_with (go_at_call 61; refine (aisleCol_any _ _ _ _ _ _ _ _ _ (by omega)).mono ?_; rintro e w' ⟨rfl, z2, rfl⟩)
          go_loopw [7] (fun i w' => ∃ (j : Nat) (Y : Array Value), (2 ≤ j ∧ j ≤ S + 2) ∧ i = .int .i64 (j) ∧ Y.size = L ∧ (∀ r q, r < S + 4 → q < W → Y[r * W + q]? = some (.int .u8 (kind2 S P D k j r q))) ∧ ∃ z, w' = ((w1.ext z0.drew).alloc (.cells Y 59)).ext z) (fun i _ => S + 2 - (intOf i).toNat)
          case atStart => exact ⟨2, Y, by omega, rfl, hY, HY.out, ⟨_, rfl⟩⟩
          case round =>
            clear HY hY
            obtain ⟨j, Y, hj, rfl, hY, hyk, z, rfl⟩ := hrel
            have HY := hid hyk
            clear hyk
            by_cases hlj : j < S + 2
            · obtain ⟨jw, hjw⟩ : ∃ jw, jw = j * W := ⟨_, rfl⟩
              have e2 : (j : Int) * (W : Int) = jw := by rw [hjw]; exact (Int.natCast_mul _ _).symm
              have hjw2 : jw + W ≤ L := by
                have h1 : (j + 1) * W ≤ (S + 4) * W := Nat.mul_le_mul_right W (by omega)
                rw [Nat.add_mul, Nat.one_mul, ← hjw, Nat.mul_comm (S + 4) W, ← HLL.out] at h1
                exact h1
              have HJW := hid hjw
              clear hjw
              have c1 : Y[jw + (1 + kp)]? = some (.int .u8 (kind2 S P D k j j (1 + kp))) := by rw [HJW.out]; exact HY.out j (1 + kp) (by omega) (by omega)
              have c2 : Y[jw + kp]? = some (.int .u8 (kind2 S P D k j j kp)) := by rw [HJW.out]; exact HY.out j kp (by omega) (by omega)
              have c3 : Y[jw + (1 + kp + 1)]? = some (.int .u8 (kind2 S P D k j j (1 + kp + 1))) := by rw [HJW.out]; exact HY.out j (1 + kp + 1) (by omega) (by omega)
              go_wp2
              first | with_reducible refine wp_region_tail_ext2 9 (by kernel_rfl) (by kernel_rfl) ?_ | refine wp_region_tail_ext 9 (by kernel_rfl) (by kernel_rfl) ?_
              simp only [List.take_succ_cons, List.take_zero, List.drop_succ_cons, List.drop_zero]
              repeat (go_big_quiet_step ((go_at_call 21; exact Calls.ext_of (index_any fb W j _ _ (by (first | omega | (simp only [World.size_ext, World.size_alloc, World.size_setCell, World.size_drew, Array.size_append]; done) | (simp only [World.size_ext, World.size_alloc, World.size_setCell, World.size_drew, Array.size_append]; omega))) (by simp [go_sem, ↓IntWalk.iteOmega]; exact h7) (by omega) (by omega)))))
              refine wpQuiet_nil ?_
              rintro _ ⟨z, rfl⟩
              go_wp2
              first | with_reducible refine wp_region_tail_ext2 10 (by kernel_rfl) (by kernel_rfl) ?_ | refine wp_region_tail_ext 10 (by kernel_rfl) (by kernel_rfl) ?_
              simp only [List.take_succ_cons, List.take_zero, List.drop_succ_cons, List.drop_zero]
              repeat (go_big_quiet_step ((go_at_call 21; exact Calls.ext_of (index_any fb W j _ _ (by (first | omega | (simp only [World.size_ext, World.size_alloc, World.size_setCell, World.size_drew, Array.size_append]; done) | (simp only [World.size_ext, World.size_alloc, World.size_setCell, World.size_drew, Array.size_append]; omega))) (by simp [go_sem, ↓IntWalk.iteOmega]; exact h7) (by omega) (by omega)))))
              refine wpQuiet_nil ?_
              rintro _ ⟨z, rfl⟩
              have G1 := hid (grid_set (i := jw + (1 + kp)) (r0 := j) (q0 := 1 + kp) 4 HLL.out hY (by omega) (by omega) (by rw [HJW.out]) HY.out)
              have G2 := hid (grid_set (i := jw + kp) (r0 := j) (q0 := kp) 3 HLL.out (by simpa using hY) (by omega) (by omega) (by rw [HJW.out]) G1.out)
              rcases Nat.lt_or_ge 1 D with hD | hD
              · have c4 := G2.out j (1 + kp + 1) (by omega) (by omega)
                rw [← HJW.out, if_neg (by omega), if_neg (by omega)] at c4
                go_wp2
                first | with_reducible refine wp_region_tail_ext2 10 (by kernel_rfl) (by kernel_rfl) ?_ | refine wp_region_tail_ext 10 (by kernel_rfl) (by kernel_rfl) ?_
                simp only [List.take_succ_cons, List.take_zero, List.drop_succ_cons, List.drop_zero]
                repeat (go_big_quiet_step ((go_at_call 21; exact Calls.ext_of (index_any fb W j _ _ (by (first | omega | (simp only [World.size_ext, World.size_alloc, World.size_setCell, World.size_drew, Array.size_append]; done) | (simp only [World.size_ext, World.size_alloc, World.size_setCell, World.size_drew, Array.size_append]; omega))) (by simp [go_sem, ↓IntWalk.iteOmega]; exact h7) (by omega) (by omega)))))
                refine wpQuiet_nil ?_
                rintro _ ⟨z, rfl⟩
                go_wp2
                have G3 := hid (grid_set (i := jw + (1 + kp + 1)) (r0 := j) (q0 := 1 + kp + 1) 3 HLL.out (by simpa using hY) (by omega) (by omega) (by rw [HJW.out]) G2.out)
                go_roundw
                case rel =>
                  refine ⟨j + 1, _, by omega, by go_num, ?_, ?_, ⟨_, rfl⟩⟩
                  · simpa using hY
                  · intro r q hr hq
                    rw [kind2_step S P D k j r q HL.out.hP (by omega) hlj, ← HKP.out]
                    rw [show 1 + kp - 1 = kp by omega]
                    simp only [hD, true_and]
                    exact G3.out r q hr hq
                case measure => simp [intOf]; omega
              · go_wp2
                go_roundw
                case rel =>
                  refine ⟨j + 1, _, by omega, by go_num, ?_, ?_, ⟨_, rfl⟩⟩
                  · simpa using hY
                  · intro r q hr hq
                    rw [kind2_step S P D k j r q HL.out.hP (by omega) hlj, ← HKP.out]
                    rw [show 1 + kp - 1 = kp by omega, if_neg (by omega)]
                    exact G2.out r q hr hq
                case measure => simp [intOf]; omega
            · obtain rfl : j = S + 2 := by omega
              go_wp2
              go_roundw
              case rel =>
                exact ⟨k + 1, Y, by omega, by go_num, hY, fun r q hr hq => by rw [← kind2_next S P D k r q HL.out.hP]; exact HY.out r q hr hq, ⟨_, rfl⟩⟩
              case measure => simp [intOf]; omega
        · obtain rfl : k = A := by omega
          go_wp2
          go_loopw [141] (fun i w' => ∃ (m : Nat) (Y : Array Value), m ≤ n ∧ i = .int .i64 (m) ∧ Y.size = L ∧ (∀ r q, r < S + 4 → q < W → Y[r * W + q]? = some (.int .u8 (if isBay m px py r q then 7 else kind2 S P D k 2 r q))) ∧ ∃ z, w' = ((w1.ext z0.drew).alloc (.cells Y 59)).ext z) (fun i _ => n - (intOf i).toNat)
          case atStart => exact ⟨0, Y, Nat.zero_le _, rfl, hY, fun r q hr hq => by simp [isBay]; exact HY.out r q hr hq, ⟨_, rfl⟩⟩
          case round =>
            clear HY hY
            obtain ⟨m, Y, hm, rfl, hY, hyk, z, rfl⟩ := hrel
            have HY := hid hyk
            clear hyk
            by_cases hlm : m < n
            · obtain ⟨pw, hpw⟩ : ∃ pw, pw = px m * W := ⟨_, rfl⟩
              have e2 : (px m : Int) * (W : Int) = pw := by rw [hpw]; exact (Int.natCast_mul _ _).symm
              have hpm : px m < S + 4 := by have := (HL.out.hx m hlm).1; omega
              have hqm : py m < W := by have := (HL.out.hx m hlm).2; have := HW.out; omega
              have hpw2 : pw + W ≤ L := by
                have h1 : (px m + 1) * W ≤ (S + 4) * W := Nat.mul_le_mul_right W (by omega)
                rw [Nat.add_mul, Nat.one_mul, ← hpw, Nat.mul_comm (S + 4) W, ← HLL.out] at h1
                exact h1
              have HPW := hid hpw
              clear hpw
              have hn := HL.out.hn
              have d0 := HC0.out m hlm
              have d1 := HC1.out m hlm
              rw [Nat.zero_add] at d0 d1
              have c1 := HY.out (px m) (py m) hpm hqm
              rw [← HPW.out] at c1
              go_wp2
              first | with_reducible refine wp_region_tail_ext2 7 (by kernel_rfl) (by kernel_rfl) ?_ | refine wp_region_tail_ext 7 (by kernel_rfl) (by kernel_rfl) ?_
              simp only [List.take_succ_cons, List.take_zero, List.drop_succ_cons, List.drop_zero]
              repeat (go_big_quiet_step ((go_at_call 21; exact Calls.ext_of (index_any fb W (px m) _ _ (by (first | omega | (simp only [World.size_ext, World.size_alloc, World.size_setCell, World.size_drew, Array.size_append]; done) | (simp only [World.size_ext, World.size_alloc, World.size_setCell, World.size_drew, Array.size_append]; omega))) (by simp [go_sem, ↓IntWalk.iteOmega]; exact h7) (by omega) (by omega)))))
              refine wpQuiet_nil ?_
              rintro _ ⟨z, rfl⟩
              go_wp2
              have G1 := hid (grid_set (i := pw + py m) (r0 := px m) (q0 := py m) 7 HLL.out hY hpm hqm (by rw [HPW.out]) HY.out)
              go_roundw
              case rel =>
                refine ⟨m + 1, _, by omega, by go_num, ?_, ?_, (((World.below_ext _ _).al _).ex _).is_ext⟩
                · simpa using hY
                · intro r q hr hq
                  rw [isBay_succ]
                  have := G1.out r q hr hq
                  rw [this]
                  by_cases hb : r = px m ∧ q = py m
                  · obtain ⟨rfl, rfl⟩ := hb; simp
                  · rw [if_neg hb]
                    have : (px m == r && py m == q) = false := by simp; omega
                    rw [this, Bool.or_false]
              case measure => simp [intOf]; omega
            · obtain rfl : m = n := by omega
              go_wp2
              go_end0
              refine ⟨rfl, (w.heap.size + z0.heap.size), by omega, by simp [hs1]; omega, fun r q hr hq => ?_, Below.is_ext ?_⟩
              · simp [go_sem, ↓IntWalk.iteOmega]
                exact HY.out r q hr hq
              · rw [HW1.out]
                repeat (first | exact Below.rf _ | refine Below.ex ?_ _ | refine Below.al ?_ _)
end Go.Proofs.Qxb6500715aFmt
