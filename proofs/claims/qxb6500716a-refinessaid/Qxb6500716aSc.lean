/-
  The script in memory; zzSmall1.
-/
import Derived.Test.Qxb6500716aFg
namespace Go.Proofs.Qxb6500716a
open Go.RowKit Go.Maps
set_option linter.unusedSimpArgs false
set_option linter.unusedVariables false
set_option maxRecDepth 20000
set_option maxHeartbeats 4000000
structure Scr (w : World) (sb so n : Nat) (o : Nat → Opr) (lao : Nat → Option Addr) (lcap : Nat → Nat) : Prop where
  hsb : sb < w.heap.size
  cells : ∀ i, i < n → w.cell? ⟨sb, so + i * 7, none⟩ = some (.int .i64 ((o i).K)) ∧ w.cell? ⟨sb, so + i * 7 + 1, none⟩ = some (.int .i64 ((o i).A)) ∧ w.cell? ⟨sb, so + i * 7 + 2, none⟩ = some (.int .i64 ((o i).B)) ∧ w.cell? ⟨sb, so + i * 7 + 3, none⟩ = some (.int .i64 ((o i).C)) ∧ w.cell? ⟨sb, so + i * 7 + 4, none⟩ = some (.int .i64 ((o i).D)) ∧ w.cell? ⟨sb, so + i * 7 + 5, none⟩ = some (.int .i64 ((o i).E)) ∧ w.cell? ⟨sb, so + i * 7 + 6, none⟩ = some (.slice (lao i) (o i).l.length (lcap i))
  op : ∀ i, i < n → (I64 (o i).A ∧ I64 (o i).B ∧ I64 (o i).C ∧ I64 (o i).D ∧ I64 (o i).E)
  iv : ∀ i, i < n → Ints w (fun _ => 0) (.slice (lao i) (o i).l.length (lcap i)) (o i).l
theorem Scr.below {w w' : World} {sb so n : Nat} {o : Nat → Opr} {lao : Nat → Option Addr} {lcap : Nat → Nat} (h : Scr w sb so n o lao lcap) (hb : Below w.heap.size w w') : Scr w' sb so n o lao lcap := by
  have ce : ∀ i, w'.cell? ⟨sb, i, none⟩ = w.cell? ⟨sb, i, none⟩ := fun i => World.cell?_of_block (hb.block sb h.hsb)
  refine ⟨Nat.lt_of_lt_of_le h.hsb hb.size, fun i hi => ?_, h.op, fun i hi => (h.iv i hi).keptL (A := fun _ => False) (KeptL.of_below hb) (fun _ h => h.elim)⟩
  simp only [ce]
  exact h.cells i hi
theorem small_any (sb so n cap : Nat) (o : Nat → Opr) (lao : Nat → Option Addr) (lcap : Nat → Nat) (w : World) (hS : Scr w sb so n o lao lcap) (hn : n ≤ 9223372036854775807) :
    Calls Try.prog 11 #[.slice (some ⟨sb, so, none⟩) n cap] w fun e w' => (∃ b, e = .returned (.bool b) ∧ (b = true → n ≤ 65536 ∧ ∀ i, i < n → (o i).l.length ≤ 65536)) ∧ w' = w := by
  have HS := hid hS
  have hsb := hS.hsb
  clear hS
  by_cases h1 : 65536 < n
  · go_enter Try.func11, Try.ntmps11
    go_wp2
    go_ret
    exact ⟨⟨false, rfl, fun h => by cases h⟩, rfl⟩
  have h2 : n ≤ 65536 := by omega
  clear h1
  go_enter Try.func11, Try.ntmps11
  go_wp2
  go_loopw [3, 4] (fun y x wr => ∃ i s : Nat, x = .int .i64 (i) ∧ y = .int .i64 (s) ∧ i ≤ n ∧ s ≤ 65536 ∧ (∀ j, j < i → (o j).l.length ≤ 65536) ∧ wr = w) (fun _ x _ => n - (intOf x).toNat)
  case atStart => exact ⟨0, n, rfl, rfl, by omega, h2, fun j hj => by omega, rfl⟩
  case round =>
    obtain ⟨i, s, rfl, rfl, hi, hs, hall, rfl⟩ := hrel
    have HA := hid hall
    clear hall
    by_cases hlt : i < n
    · obtain ⟨-, -, -, -, -, -, c6⟩ := HS.out.cells i hlt
      have hl := (HS.out.iv i hlt).len
      obtain ⟨li, hli⟩ : ∃ y, (o i).l.length = y := ⟨_, rfl⟩
      rw [hli] at c6 hl
      have HLI := hid hli
      clear hli
      by_cases hbig : 65536 < s + li
      · go_wp2
        go_ret
        exact ⟨⟨false, rfl, fun h => by cases h⟩, rfl⟩
      · go_wp2
        go_roundw
        case rel => exact ⟨i + 1, s + li, by go_num, by go_num, by omega, by omega, fun j hj => by
          by_cases e : j = i
          · subst e; rw [HLI.out]; omega
          · exact HA.out j (by omega), by trivial⟩
        case measure => simp [intOf]; omega
    · go_wp2
      go_ret
      exact ⟨⟨true, rfl, fun _ => ⟨h2, fun j hj => HA.out j (by omega)⟩⟩, rfl⟩
theorem small_none (ao : Option Addr) (cap : Nat) (w : World) : Calls Try.prog 11 #[.slice ao 0 cap] w fun e w' => e = .returned (.bool true) ∧ w' = w := by
  go_enter Try.func11, Try.ntmps11
  go_wp2
  refine wp_loop_once ?_
  go_wp2
  go_ret
  exact ⟨rfl, rfl⟩
end Go.Proofs.Qxb6500716a
