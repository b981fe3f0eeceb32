/-
  index, drivable, fill, Height: leaves of the floor.
-/
import Derived.Test.Qxb6500715aFmtOwn
import Derived.Test.Qxb6500715aFmtLeaf
import Derived.Laws.CopyOwn
namespace Go
/-- One store into a row that is a block of its own. -/
theorem setRow_ext (w z : World) (g : Nat) (c : Array Value) (h : g < w.heap.size) : (w.ext z).setRow g c = (w.setRow g c).ext z := by
  simp only [World.setRow, World.ext]
  congr 1
  apply Array.ext_getElem?
  intro i
  simp only [Array.getElem?_modify, Array.getElem?_append, Array.size_modify]
  by_cases hi : i < w.heap.size
  · by_cases hb : g = i <;> simp [hi, hb]
  · have hb : ¬ g = i := by omega
    simp [hi, hb]
end Go
namespace Go.Proofs.Qxb6500715aFmt
open Go.RowKit
set_option linter.unusedSimpArgs false
set_option linter.unusedVariables false

theorem index_any (fb : Nat) (W x y : Int) (w : World) (hfb : fb < w.heap.size) (hW : w.cell? ⟨fb, 7, none⟩ = some (.int .i64 (W))) (h1 : -1000000 ≤ x * W ∧ x * W ≤ 1000000) (h2 : -1000000 ≤ y ∧ y ≤ 1000000) :
    Calls Tryf.prog 21 #[.pointer (some ⟨fb, 0, none⟩), .agg #[.int .i64 (x), .int .i64 (y)]] w fun e w' => e = .returned (.int .i64 (x * W + y)) ∧ ∃ z, w' = w.ext z := by
  go_enter Tryf.func21, Tryf.ntmps21
  go_wp2
  first | with_reducible refine wp_region_ext2 (by kernel_rfl) (by kernel_rfl) ?_ | refine wp_region_ext (by kernel_rfl) (by kernel_rfl) ?_
  repeat (go_big_quiet_step (fail))
  refine wpQuiet_nil ?_
  rintro _ ⟨z, rfl⟩
  go_wp2
  go_ret
  exact ⟨rfl, (((Below.rf w).al _).ex _).is_ext⟩

/-- Ground on which a robot can stand. -/
def drv (k : Int) : Bool := k == 4 || k == 5 || k == 6 || k == 7

theorem drivable_any (k : Int) (w : World) : Calls Tryf.prog 19 #[.int .u8 k] w fun e w' => e = .returned (.bool (drv k)) ∧ w' = w := by
  rcases Bool.eq_false_or_eq_true (k == 4) with h4 | h4
  · go_enter Tryf.func19, Tryf.ntmps19
    go_wp2
    go_ret
    exact ⟨ret_bool (by simp [drv, h4]), rfl⟩
  rcases Bool.eq_false_or_eq_true (k == 5) with h5 | h5
  · go_enter Tryf.func19, Tryf.ntmps19
    go_wp2
    go_ret
    exact ⟨ret_bool (by simp [drv, h4, h5]), rfl⟩
  rcases Bool.eq_false_or_eq_true (k == 6) with h6 | h6
  · go_enter Tryf.func19, Tryf.ntmps19
    go_wp2
    go_ret
    exact ⟨ret_bool (by simp [drv, h4, h5, h6]), rfl⟩
  rcases Bool.eq_false_or_eq_true (k == 7) with h7 | h7
  · go_enter Tryf.func19, Tryf.ntmps19
    go_wp2
    go_ret
    exact ⟨ret_bool (by simp [drv, h4, h5, h6, h7]), rfl⟩
  · go_enter Tryf.func19, Tryf.ntmps19
    go_wp2
    go_ret
    exact ⟨ret_bool (by simp [drv, h4, h5, h6, h7]), rfl⟩

/-- fill's loop: the first k of the line are set. -/
def FillAt (kb off k : Nat) (v : Int) (Y : Array Value) (w w' : World) : Prop :=
  ∃ Y' : Array Value, Y'.size = Y.size ∧ (∀ i : Nat, Y'[i]? = if off ≤ i ∧ i < off + k then some (.int .u8 v) else Y[i]?) ∧ w' = w.setRow kb Y'

set_option maxHeartbeats 1000000 in
theorem fill_any (kb off len cap : Nat) (v : Int) (Y : Array Value) (w : World) (hY : w.heap[kb]? = some (.cells Y 59)) (hlen : off + len ≤ Y.size) (hm : len ≤ 1000000) (hlc : len ≤ cap) :
    Calls Tryf.prog 72 #[.slice (some ⟨kb, off, none⟩) len cap, .int .u8 v] w fun e w' => e = .returned (.tuple #[]) ∧ FillAt kb off len v Y w w' := by
  go_enter Tryf.func72, Tryf.ntmps72
  go_wp2
  go_loopw [7] (fun i w' => ∃ k : Nat, k ≤ len ∧ i = .int .i64 (k) ∧ FillAt kb off k v Y w w') (fun i _ => len - (intOf i).toNat)
  case atStart => exact ⟨0, Nat.zero_le _, rfl, Y, rfl, fun i => by rw [if_neg (by omega)], (setRow_self w kb Y 59 _ hY).symm⟩
  case round =>
    obtain ⟨k, hk, rfl, Y', hs, hg, hw⟩ := hrel
    by_cases hlt : k < len
    · have hh : wr.heap[kb]? = some (.cells Y' 59) := by rw [hw]; exact setRow_heap w kb Y Y' 59 _ hY
      have hlt2 : off + k < Y'.size := by omega
      have c0 : wr.cell? ⟨kb, off + k, none⟩ = some Y'[off + k] := by rw [cell_of_row wr kb _ Y' 59 (0, 0) hh]; exact Array.getElem?_eq_getElem hlt2
      have f0 : wr.frozen? ⟨kb, off + k, none⟩ = false := by simp [World.frozen?, hh]
      obtain ⟨y, hy⟩ : ∃ y, Y'[off + k] = y := ⟨_, rfl⟩
      rw [hy] at c0
      have HW := hid hw
      have HH := hid hh
      have HGG := hid hg
      clear hw hh hg hy hY
      go_wp2
      go_roundw
      case rel =>
        have hw := HW.out
        have hh := HH.out
        have hg := HGG.out
        refine ⟨k + 1, by omega, by go_num, Y'.setIfInBounds (off + k) (.int .u8 v), by simpa using hs, fun i => ?_, ?_⟩
        · rw [Array.getElem?_setIfInBounds]
          by_cases hi : off + k = i
          · rw [if_pos hi, if_pos (by omega), if_pos (by omega)]
          · rw [if_neg hi, hg i]
            by_cases h2 : off ≤ i ∧ i < off + k
            · rw [if_pos h2, if_pos (by omega)]
            · rw [if_neg h2, if_neg (by omega)]
        · rw [setCell_eq_setRow wr kb (off + k) Y' 59 _ _ hh, hw, setRow_setRow]
      case measure => simp [intOf]; omega
    · obtain rfl : k = len := by omega
      go_wp2
      go_end0
      exact ⟨rfl, Y', hs, hg, rfl⟩
end Go.Proofs.Qxb6500715aFmt
