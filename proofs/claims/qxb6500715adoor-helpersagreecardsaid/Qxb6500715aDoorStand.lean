/-
  Standard: the layout it lays.
-/
import Derived.Test.Qxb6500715aDoorLaw8b
namespace Go
/-- What is owned from 'base' on does not hang on what lies below. -/
theorem ownsRow_swap {w1 w2 z : World} {base : Nat} {e : TypeId} {size : Nat} {v : Value} {n : Nat} {xs : List Value} (h : (w1.ext z).ownsRow base e size v n xs) (hs : w1.heap.size = w2.heap.size) (hb : w1.heap.size ≤ base) : (w2.ext z).ownsRow base e size v n xs := by
  obtain ⟨h1, h2⟩ := h
  refine ⟨h1, ?_⟩
  rcases h2 with h2 | ⟨g, cap, cur, hv, hg, hh, r⟩
  · exact Or.inl h2
  · refine Or.inr ⟨g, cap, cur, hv, hg, ?_, r⟩
    rw [← hh]
    show (w2.heap ++ z.heap)[g]? = (w1.heap ++ z.heap)[g]?
    rw [Array.getElem?_append_right (by omega), Array.getElem?_append_right (by omega), hs]

/-- The same of one cell, in a world that has grown. -/
theorem cell_swap {w1 w2 z y : World} {b o : Nat} {v : Value} (h : (w1.ext z).cell? ⟨b, o, none⟩ = some v) (hs : w1.heap.size = w2.heap.size) (hb : w1.heap.size ≤ b) (hb2 : b < w1.heap.size + z.heap.size) (hy : ∀ i, i < z.heap.size → y.heap[i]? = z.heap[i]?) : (w2.ext y).cell? ⟨b, o, none⟩ = some v := by
  rw [← h]
  refine World.cell?_of_block ?_
  show (w2.heap ++ y.heap)[b]? = (w1.heap ++ z.heap)[b]?
  rw [Array.getElem?_append_right (by omega), Array.getElem?_append_right (by omega), ← hs]
  exact hy _ (by omega)

theorem ownsRow_nil {w : World} {base : Nat} {e : TypeId} {size : Nat} : w.ownsRow base e size (.slice none 0 0) 0 [] := by
  exact ⟨by simp, Or.inl ⟨rfl, rfl⟩⟩

theorem ownsRow_cells2 {w : World} {base : Nat} {e : TypeId} {v : Value} {n : Nat} {xs : List Value} (h : w.ownsRow base e 2 v n xs) (hn : 0 < n) :
    ∃ g cap : Nat, v = .slice (some ⟨g, 0, none⟩) n cap ∧ n ≤ cap ∧ base ≤ g ∧ g < w.heap.size ∧ ∀ i u, xs[i]? = some u → w.cell? ⟨g, i, none⟩ = some u := by
  obtain ⟨h1, h2⟩ := h
  rcases h2 with ⟨_, h2⟩ | ⟨g, cap, cur, hv, hg, hh, hnc, _, hsz, ht⟩
  · omega
  · refine ⟨g, cap, hv, hnc, hg, (Array.getElem?_eq_some_iff.1 hh).1, fun i u hu => ?_⟩
    rw [cell_of_row w g i cur e (0, 0) hh, ← Array.getElem?_toList]
    rw [← ht, List.getElem?_take] at hu
    split at hu
    · exact hu
    · cases hu
end Go
namespace Go.Proofs.Qxb6500715aDoor
open Go.RowKit
set_option linter.unusedSimpArgs false
set_option linter.unusedVariables false

/-- n places, two cells each. -/
def rowP (px py : Nat → Int) : Nat → List Value
  | 0 => []
  | n + 1 => rowP px py n ++ [.int .i64 (px n), .int .i64 (py n)]
theorem rowP_len (px py : Nat → Int) (n : Nat) : (rowP px py n).length = n * 2 := by
  induction n with
  | zero => rfl
  | succ n ih => simp only [rowP, List.length_append, ih]; simp; omega
theorem rowP_get (px py : Nat → Int) (n i : Nat) (h : i < n) : (rowP px py n)[i * 2]? = some (.int .i64 (px i)) ∧ (rowP px py n)[i * 2 + 1]? = some (.int .i64 (py i)) := by
  induction n with
  | zero => omega
  | succ n ih =>
    simp only [rowP]
    have hl := rowP_len px py n
    by_cases hi : i < n
    · rw [List.getElem?_append_left (by omega), List.getElem?_append_left (by omega)]
      exact ih hi
    · obtain rfl : i = n := by omega
      rw [List.getElem?_append_right (by omega), List.getElem?_append_right (by omega), hl]
      simp

def stdX (W S : Int) (i : Nat) : Int := if (i : Int) < W then 0 else S + 3
def stdY (W : Int) (i : Nat) : Int := if (i : Int) < W then i else i - W

/-- The standard layouts are sound. -/
theorem std_ok (A S P D : Int) (n : Nat) (hA : 1 ≤ A ∧ A ≤ 8) (hS : 1 ≤ S ∧ S ≤ 12) (hP : 2 ≤ P ∧ P ≤ 3) (hD : 1 ≤ D ∧ D ≤ 2) (hn : 1 ≤ n ∧ n ≤ 6) :
    layOk A S P D 1 1 n (stdX ((A - 1) * P + 3) S) (stdY ((A - 1) * P + 3)) := by
  have hw : 3 ≤ (A - 1) * P + 3 := by rcases (by omega : P = 2 ∨ P = 3) with rfl | rfl <;> omega
  refine ⟨hn, hA, hS, hP, hD, rfl, by omega, ?_, ?_⟩
  · intro i hi
    by_cases h : (i : Int) < (A - 1) * P + 3
    · have e1 : (stdX ((A - 1) * P + 3) S) i = 0 := by simp [stdX, h]
      have e2 : (stdY ((A - 1) * P + 3)) i = i := by simp [stdY, h]
      simp only [onApron, inGrid, Bool.and_eq_true, Bool.or_eq_true, beq_iff_eq, decide_eq_true_eq]
      rw [e1, e2]
      omega
    · have e1 : (stdX ((A - 1) * P + 3) S) i = S + 3 := by simp [stdX, h]
      have e2 : (stdY ((A - 1) * P + 3)) i = i - ((A - 1) * P + 3) := by simp [stdY, h]
      simp only [onApron, inGrid, Bool.and_eq_true, Bool.or_eq_true, beq_iff_eq, decide_eq_true_eq]
      rw [e1, e2]
      omega
  · intro i j hj hi
    simp only [stdX, stdY]
    split <;> split <;> omega


def stdPost (A S P D : Int) (n : Nat) (w : World) (e : Ending) (w' : World) : Prop :=
  ∃ (pb cap : Nat) (o : Int), n ≤ cap ∧ w.heap.size ≤ pb ∧ pb < w'.heap.size ∧ (∀ i, i < n → w'.cell? ⟨pb, i * 2, none⟩ = some (.int .i64 ((stdX ((A - 1) * P + 3) S) i))) ∧ (∀ i, i < n → w'.cell? ⟨pb, i * 2 + 1, none⟩ = some (.int .i64 ((stdY ((A - 1) * P + 3)) i))) ∧
    e = .returned (.tuple #[.agg #[.int .i64 (A), .int .i64 (S), .int .i64 (P), .int .i64 (D), .int .i64 (1), .int .i64 (1), .slice (some ⟨pb, 0, none⟩) n cap], .agg #[.int .u8 0, .int .i64 (o)]]) ∧ ∃ z, w' = w.ext z

set_option maxRecDepth 20000 in
set_option maxHeartbeats 2000000 in
theorem standard_any (A S P D : Int) (n : Nat) (w : World) (hG : Globs w) (hA : 1 ≤ A ∧ A ≤ 8) (hS : 1 ≤ S ∧ S ≤ 12) (hP : 2 ≤ P ∧ P ≤ 3) (hD : 1 ≤ D ∧ D ≤ 2) (hn : 1 ≤ n ∧ n ≤ 6) :
    Calls Tryd.prog 46 #[.int .i64 (A), .int .i64 (S), .int .i64 (P), .int .i64 (D), .int .i64 (n)] w (stdPost A S P D n w) := by
  have hi0 : ∀ w, (Instr.index 129 (.agg #[.int .i64 (A), .int .i64 (1), .int .i64 (8), .int .u8 7, .int .i64 (2), .int .i64 (S), .int .i64 (1), .int .i64 (12), .int .u8 8, .int .i64 (3), .int .i64 (P), .int .i64 (2), .int .i64 (3), .int .u8 9, .int .i64 (4), .int .i64 (D), .int .i64 (1), .int .i64 (2), .int .u8 10, .int .i64 (5)]) (.int .i64 0)).run Tryd.prog w = .ok (.agg #[.int .i64 (A), .int .i64 (1), .int .i64 (8), .int .u8 7, .int .i64 (2)]) w := fun _ => by kernel_rfl
  have hi1 : ∀ w, (Instr.index 129 (.agg #[.int .i64 (A), .int .i64 (1), .int .i64 (8), .int .u8 7, .int .i64 (2), .int .i64 (S), .int .i64 (1), .int .i64 (12), .int .u8 8, .int .i64 (3), .int .i64 (P), .int .i64 (2), .int .i64 (3), .int .u8 9, .int .i64 (4), .int .i64 (D), .int .i64 (1), .int .i64 (2), .int .u8 10, .int .i64 (5)]) (.int .i64 1)).run Tryd.prog w = .ok (.agg #[.int .i64 (S), .int .i64 (1), .int .i64 (12), .int .u8 8, .int .i64 (3)]) w := fun _ => by kernel_rfl
  have hi2 : ∀ w, (Instr.index 129 (.agg #[.int .i64 (A), .int .i64 (1), .int .i64 (8), .int .u8 7, .int .i64 (2), .int .i64 (S), .int .i64 (1), .int .i64 (12), .int .u8 8, .int .i64 (3), .int .i64 (P), .int .i64 (2), .int .i64 (3), .int .u8 9, .int .i64 (4), .int .i64 (D), .int .i64 (1), .int .i64 (2), .int .u8 10, .int .i64 (5)]) (.int .i64 2)).run Tryd.prog w = .ok (.agg #[.int .i64 (P), .int .i64 (2), .int .i64 (3), .int .u8 9, .int .i64 (4)]) w := fun _ => by kernel_rfl
  have hi3 : ∀ w, (Instr.index 129 (.agg #[.int .i64 (A), .int .i64 (1), .int .i64 (8), .int .u8 7, .int .i64 (2), .int .i64 (S), .int .i64 (1), .int .i64 (12), .int .u8 8, .int .i64 (3), .int .i64 (P), .int .i64 (2), .int .i64 (3), .int .u8 9, .int .i64 (4), .int .i64 (D), .int .i64 (1), .int .i64 (2), .int .u8 10, .int .i64 (5)]) (.int .i64 3)).run Tryd.prog w = .ok (.agg #[.int .i64 (D), .int .i64 (1), .int .i64 (2), .int .u8 10, .int .i64 (5)]) w := fun _ => by kernel_rfl
  have HOK := hid (std_ok A S P D n hA hS hP hD hn)
  have hr : robotsOk n = true := by simp [robotsOk]; omega
  have HG := hid hG
  have hw0 := hG.h0
  have hpw : 0 ≤ (A - 1) * P ∧ (A - 1) * P ≤ 21 := by rcases (by omega : P = 2 ∨ P = 3) with rfl | rfl <;> omega
  clear hG
  go_enter Tryd.func46, Tryd.ntmps46
  go_wp2_with (go_at_call 86; refine (bounds_any _ _ _ _ _ _ _ _).mono ?_; rintro e w' ⟨rfl, z, rfl⟩)
  go_loopw [25] (fun i w' => ∃ k : Nat, k ≤ 4 ∧ i = .int .i64 (k) ∧ ∃ z, w' = (((w.alloc (.cells #[.int .i64 (0), .int .i64 (0), .int .i64 (0), .int .i64 (0), .int .i64 (0), .int .i64 (0), .slice none 0 0] 66)).alloc (.cells #[.int .u8 0, .int .i64 (0)] 69)).alloc (.cells #[.int .i64 (A), .int .i64 (S), .int .i64 (P), .int .i64 (D), .int .i64 (0), .int .i64 (0), .slice none 0 0] 66)).ext z) (fun i _ => 4 - (intOf i).toNat)
  case atStart => exact ⟨0, by omega, rfl, ⟨_, rfl⟩⟩
  case round =>
    obtain ⟨k, hk, rfl, z, rfl⟩ := hrel
    rcases (by omega : k = 0 ∨ k = 1 ∨ k = 2 ∨ k = 3 ∨ k = 4) with rfl | rfl | rfl | rfl | rfl
    · go_wp2
      go_roundw
      case rel => exact ⟨0 + 1, by omega, by go_num, ((World.below_ext _ _).al _).is_ext⟩
      case measure => simp [intOf]
    · go_wp2
      go_roundw
      case rel => exact ⟨1 + 1, by omega, by go_num, ((World.below_ext _ _).al _).is_ext⟩
      case measure => simp [intOf]
    · go_wp2
      go_roundw
      case rel => exact ⟨2 + 1, by omega, by go_num, ((World.below_ext _ _).al _).is_ext⟩
      case measure => simp [intOf]
    · go_wp2
      go_roundw
      case rel => exact ⟨3 + 1, by omega, by go_num, ((World.below_ext _ _).al _).is_ext⟩
      case measure => simp [intOf]
    · clear hi0 hi1 hi2 hi3
      go_wp2_with (first | (go_at_call 88; refine (Calls.tf (robots_any _ _) hr).mono ?_; rintro e w' ⟨rfl, z2, rfl⟩) | (go_at_call 89; refine (aisleCol_any _ _ _ _ _ _ _ 0 _ (by omega)).mono ?_; rintro e w' ⟨rfl, z3, rfl⟩) | (go_at_call 90; refine (width_any _ _ _ _ _ _ _ _ (by omega) (by omega)).mono ?_; rintro e w' ⟨rfl, z4, rfl⟩))
      go_loopw [16] (fun i w' => ∃ (k : Nat) (v : Value) (z : World), k ≤ n ∧ i = .int .i64 (k) ∧ ((((w.alloc (.cells #[.int .i64 (0), .int .i64 (0), .int .i64 (0), .int .i64 (0), .int .i64 (0), .int .i64 (0), .slice none 0 0] 66)).alloc (.cells #[.int .u8 0, .int .i64 (0)] 69)).alloc (.cells #[.int .i64 (A), .int .i64 (S), .int .i64 (P), .int .i64 (D), .int .i64 (1), .int .i64 (1), v] 66)).ext z).ownsRow (w.heap.size + 1 + 1 + 1) 63 2 v k (rowP (stdX ((A - 1) * P + 3) S) (stdY ((A - 1) * P + 3)) k) ∧ w' = (((w.alloc (.cells #[.int .i64 (0), .int .i64 (0), .int .i64 (0), .int .i64 (0), .int .i64 (0), .int .i64 (0), .slice none 0 0] 66)).alloc (.cells #[.int .u8 0, .int .i64 (0)] 69)).alloc (.cells #[.int .i64 (A), .int .i64 (S), .int .i64 (P), .int .i64 (D), .int .i64 (1), .int .i64 (1), v] 66)).ext z) (fun i _ => n - (intOf i).toNat)
      case atStart => exact ⟨0, .slice none 0 0, _, by omega, rfl, ownsRow_nil, rfl⟩
      case round =>
        obtain ⟨k, v, z, hk, rfl, hown, rfl⟩ := hrel
        have HO := hid hown
        clear hown
        by_cases hlt : k < n
        · by_cases hx : (k : Int) < (A - 1) * P + 3
          · have ex : (stdX ((A - 1) * P + 3) S) k = 0 := by simp [stdX, hx]
            have ey : (stdY ((A - 1) * P + 3)) k = k := by simp [stdY, hx]
            have EX := hid ex
            have EY := hid ey
            clear ex ey
            go_wp2_with (first | (go_at_call 91; refine (backApronRow_any _ _ _ _ _ _ _ _ (by omega)).mono ?_; rintro e w' ⟨rfl, z5, rfl⟩) | (at_builtin; refine hold ?_))
            show wpList _ _ _ _ _ _
            refine wp_app rfl _ _ 64 rfl (w.heap.size + 1 + 1 + 1) 63 (.agg #[.int .i64 (0), .int .i64 (0)]) 2 16 Tryd.underlying64 (by kernel_rfl) rfl (by decide) _ k (rowP (stdX ((A - 1) * P + 3) S) (stdY ((A - 1) * P + 3)) k) rfl ?_ _ 0 1 1 [.int .i64 (0), .int .i64 (k)] rfl rfl ?_ (by simp [Value.oneCell']) (by omega) (by omega) ?_ ?_
            · first | exact ownsRow_alloc (ownsRow_alloc HO.out _) _ | exact ownsRow_alloc (ownsRow_ext (ownsRow_alloc HO.out _)) _
            · intro j u hj; simp [go_sem, ↓IntWalk.iteOmega]; simpa using hj
            · (first | omega | (simp only [World.size_ext, World.size_alloc, World.size_setCell, World.size_drew, Array.size_append]; done) | (simp only [World.size_ext, World.size_alloc, World.size_setCell, World.size_drew, Array.size_append]; omega))
            intro v3 w3 hown3 hb3
            have HO4 : Hid (w3.ownsRow (w.heap.size + 1 + 1 + 1) 63 2 v3 (k + 1) (rowP (stdX ((A - 1) * P + 3) S) (stdY ((A - 1) * P + 3)) (k + 1))) := by
              show World.ownsRow _ _ _ _ _ _ _
              simp only [rowP]
              rw [EX.out, EY.out]
              exact hown3
            obtain ⟨z6, rfl⟩ : ∃ z, w3 = (((w.alloc (.cells #[.int .i64 (0), .int .i64 (0), .int .i64 (0), .int .i64 (0), .int .i64 (0), .int .i64 (0), .slice none 0 0] 66)).alloc (.cells #[.int .u8 0, .int .i64 (0)] 69)).alloc (.cells #[.int .i64 (A), .int .i64 (S), .int .i64 (P), .int .i64 (D), .int .i64 (1), .int .i64 (1), v] 66)).ext z := by
              first | exact ((((World.below_ext _ _).al _).al _).trans (hb3.mono (by (first | omega | (simp only [World.size_ext, World.size_alloc, World.size_setCell, World.size_drew, Array.size_append]; done) | (simp only [World.size_ext, World.size_alloc, World.size_setCell, World.size_drew, Array.size_append]; omega))))).is_ext | exact (((((World.below_ext _ _).al _).ex _).al _).trans (hb3.mono (by (first | omega | (simp only [World.size_ext, World.size_alloc, World.size_setCell, World.size_drew, Array.size_append]; done) | (simp only [World.size_ext, World.size_alloc, World.size_setCell, World.size_drew, Array.size_append]; omega))))).is_ext
            clear hown3 hb3
            obtain ⟨gb, cp, rfl, _, _, _, _⟩ := ownsRow_cells2 HO4.out (by omega)
            go_wp2
            go_roundw
            case rel => exact ⟨k + 1, _, z6, by omega, by go_num, ownsRow_swap HO4.out (by simp) (by (first | omega | (simp only [World.size_ext, World.size_alloc, World.size_setCell, World.size_drew, Array.size_append]; done) | (simp only [World.size_ext, World.size_alloc, World.size_setCell, World.size_drew, Array.size_append]; omega))), rfl⟩
            case measure => simp [intOf]; omega
          · have ex : (stdX ((A - 1) * P + 3) S) k = S + 3 := by simp [stdX, hx]
            have ey : (stdY ((A - 1) * P + 3)) k = k - ((A - 1) * P + 3) := by simp [stdY, hx]
            have EX := hid ex
            have EY := hid ey
            clear ex ey
            go_wp2_with (first | (go_at_call 91; refine (backApronRow_any _ _ _ _ _ _ _ _ (by omega)).mono ?_; rintro e w' ⟨rfl, z5, rfl⟩) | (at_builtin; refine hold ?_))
            show wpList _ _ _ _ _ _
            refine wp_app rfl _ _ 64 rfl (w.heap.size + 1 + 1 + 1) 63 (.agg #[.int .i64 (0), .int .i64 (0)]) 2 16 Tryd.underlying64 (by kernel_rfl) rfl (by decide) _ k (rowP (stdX ((A - 1) * P + 3) S) (stdY ((A - 1) * P + 3)) k) rfl ?_ _ 0 1 1 [.int .i64 (S + 3), .int .i64 ((k : Int) - ((A - 1) * P + 3))] rfl rfl ?_ (by simp [Value.oneCell']) (by omega) (by omega) ?_ ?_
            · first | exact ownsRow_alloc (ownsRow_alloc HO.out _) _ | exact ownsRow_alloc (ownsRow_ext (ownsRow_alloc HO.out _)) _
            · intro j u hj; simp [go_sem, ↓IntWalk.iteOmega]; simpa using hj
            · (first | omega | (simp only [World.size_ext, World.size_alloc, World.size_setCell, World.size_drew, Array.size_append]; done) | (simp only [World.size_ext, World.size_alloc, World.size_setCell, World.size_drew, Array.size_append]; omega))
            intro v3 w3 hown3 hb3
            have HO4 : Hid (w3.ownsRow (w.heap.size + 1 + 1 + 1) 63 2 v3 (k + 1) (rowP (stdX ((A - 1) * P + 3) S) (stdY ((A - 1) * P + 3)) (k + 1))) := by
              show World.ownsRow _ _ _ _ _ _ _
              simp only [rowP]
              rw [EX.out, EY.out]
              exact hown3
            obtain ⟨z6, rfl⟩ : ∃ z, w3 = (((w.alloc (.cells #[.int .i64 (0), .int .i64 (0), .int .i64 (0), .int .i64 (0), .int .i64 (0), .int .i64 (0), .slice none 0 0] 66)).alloc (.cells #[.int .u8 0, .int .i64 (0)] 69)).alloc (.cells #[.int .i64 (A), .int .i64 (S), .int .i64 (P), .int .i64 (D), .int .i64 (1), .int .i64 (1), v] 66)).ext z := by
              first | exact ((((World.below_ext _ _).al _).al _).trans (hb3.mono (by (first | omega | (simp only [World.size_ext, World.size_alloc, World.size_setCell, World.size_drew, Array.size_append]; done) | (simp only [World.size_ext, World.size_alloc, World.size_setCell, World.size_drew, Array.size_append]; omega))))).is_ext | exact (((((World.below_ext _ _).al _).ex _).al _).trans (hb3.mono (by (first | omega | (simp only [World.size_ext, World.size_alloc, World.size_setCell, World.size_drew, Array.size_append]; done) | (simp only [World.size_ext, World.size_alloc, World.size_setCell, World.size_drew, Array.size_append]; omega))))).is_ext
            clear hown3 hb3
            obtain ⟨gb, cp, rfl, _, _, _, _⟩ := ownsRow_cells2 HO4.out (by omega)
            go_wp2
            go_roundw
            case rel => exact ⟨k + 1, _, z6, by omega, by go_num, ownsRow_swap HO4.out (by simp) (by (first | omega | (simp only [World.size_ext, World.size_alloc, World.size_setCell, World.size_drew, Array.size_append]; done) | (simp only [World.size_ext, World.size_alloc, World.size_setCell, World.size_drew, Array.size_append]; omega))), rfl⟩
            case measure => simp [intOf]; omega
        · obtain rfl : n = k := by omega
          obtain ⟨pb, cap, rfl, hcp, hpb, hpb', hpc⟩ := ownsRow_cells2 HO.out (by omega)
          have C0 : Hid (∀ i, i < n → ((((w.alloc (.cells #[.int .i64 (0), .int .i64 (0), .int .i64 (0), .int .i64 (0), .int .i64 (0), .int .i64 (0), .slice none 0 0] 66)).alloc (.cells #[.int .u8 0, .int .i64 (0)] 69)).alloc (.cells #[.int .i64 (A), .int .i64 (S), .int .i64 (P), .int .i64 (D), .int .i64 (1), .int .i64 (1), .slice (some ⟨pb, 0, none⟩) n cap] 66)).ext z).cell? ⟨pb, 0 + i * 2, none⟩ = some (.int .i64 ((stdX ((A - 1) * P + 3) S) i))) := fun i hi => by rw [Nat.zero_add]; exact hpc _ _ (rowP_get _ _ n i hi).1
          have C1 : Hid (∀ i, i < n → ((((w.alloc (.cells #[.int .i64 (0), .int .i64 (0), .int .i64 (0), .int .i64 (0), .int .i64 (0), .int .i64 (0), .slice none 0 0] 66)).alloc (.cells #[.int .u8 0, .int .i64 (0)] 69)).alloc (.cells #[.int .i64 (A), .int .i64 (S), .int .i64 (P), .int .i64 (D), .int .i64 (1), .int .i64 (1), .slice (some ⟨pb, 0, none⟩) n cap] 66)).ext z).cell? ⟨pb, 0 + i * 2 + 1, none⟩ = some (.int .i64 ((stdY ((A - 1) * P + 3)) i))) := fun i hi => by rw [Nat.zero_add]; exact hpc _ _ (rowP_get _ _ n i hi).2
          have hpb2 : pb < w.heap.size + 1 + 1 + 1 + z.heap.size := by simpa [Nat.add_assoc] using hpb'
          clear hpc hpb' HO
          go_wp2
          go_region_held3 (fun w' => w'.cell? ⟨w.heap.size + 1 + 1, 0, none⟩ = some (.int .i64 (A)) ∧ w'.cell? ⟨w.heap.size + 1 + 1, 1, none⟩ = some (.int .i64 (S)) ∧ w'.cell? ⟨w.heap.size + 1 + 1, 2, none⟩ = some (.int .i64 (P)) ∧ w'.cell? ⟨w.heap.size + 1 + 1, 3, none⟩ = some (.int .i64 (D)) ∧ w'.cell? ⟨w.heap.size + 1 + 1, 4, none⟩ = some (.int .i64 (1)) ∧ w'.cell? ⟨w.heap.size + 1 + 1, 5, none⟩ = some (.int .i64 (1)) ∧ w'.cell? ⟨w.heap.size + 1 + 1, 6, none⟩ = some (.slice (some ⟨pb, 0, none⟩) n cap)) (simp [go_sem, ↓IntWalk.iteOmega, *]) ((go_at_call 70; refine (validate_any A S P D 1 1 pb 0 n cap (stdX ((A - 1) * P + 3) S) (stdY ((A - 1) * P + 3)) _ (by omega) (by omega) (by omega) (by omega) hcp ?_ ?_ ?_ ?_ ?_ ?_).mono ?_; ((first | omega | (simp only [World.size_ext, World.size_alloc, World.size_setCell, World.size_drew, Array.size_append]; done) | (simp only [World.size_ext, World.size_alloc, World.size_setCell, World.size_drew, Array.size_append]; omega))); ((first | omega | (simp only [World.size_ext, World.size_alloc, World.size_setCell, World.size_drew, Array.size_append]; done) | (simp only [World.size_ext, World.size_alloc, World.size_setCell, World.size_drew, Array.size_append]; omega))); (simp [go_sem, ↓IntWalk.iteOmega]; exact HG.out.g0); (simp [go_sem, ↓IntWalk.iteOmega]; exact HG.out.g1); (intro i hi; exact C0.out i hi); (intro i hi; exact C1.out i hi); rintro e w' ⟨kk, o, rfl, hk, z7, rfl⟩; obtain rfl := hk.2 HOK.out; clear hk))
          go_wp2
          refine bodyPost_ret (v := .tuple #[.agg #[.int .i64 (A), .int .i64 (S), .int .i64 (P), .int .i64 (D), .int .i64 (1), .int .i64 (1), .slice (some ⟨pb, 0, none⟩) n cap], .agg #[.int .u8 0, .int .i64 (o)]]) (by simp [results, Tryd.results46, go_sem, ↓IntWalk.iteOmega]) rfl ⟨pb, cap, o, hcp, by omega, ?_, ?_, ?_, rfl, ?_⟩
          · (first | omega | (simp only [World.size_ext, World.size_alloc, World.size_setCell, World.size_drew, Array.size_append]; done) | (simp only [World.size_ext, World.size_alloc, World.size_setCell, World.size_drew, Array.size_append]; omega))
          · intro i hi
            have := C0.out i hi
            rw [Nat.zero_add] at this
            exact cell_swap this (by simp) (by simpa using hpb) (by simpa [Nat.add_assoc] using hpb2) (fun i hi => Array.getElem?_append_left hi)
          · intro i hi
            have := C1.out i hi
            rw [Nat.zero_add] at this
            exact cell_swap this (by simp) (by simpa using hpb) (by simpa [Nat.add_assoc] using hpb2) (fun i hi => Array.getElem?_append_left hi)
          · refine Below.is_ext ?_
            repeat (first | with_reducible exact Below.rf _ | with_reducible exact World.below_ext _ _ | with_reducible refine Below.ex ?_ _ | with_reducible refine Below.al ?_ _ | with_reducible refine Below.setCell ?_ (by simp) _ | with_reducible refine Below.drew ?_)
end Go.Proofs.Qxb6500715aDoor
