/-
  Audit: the walk.
-/
import Derived.Test.Qxb6500715aFmtAud3
import Derived.Test.Qxb6500715aFmtAud5
import Derived.Test.Qxb6500715aFmtAud6
import Derived.Test.Qxb6500715aFmtAud7
namespace Go.Proofs.Qxb6500715aFmt
open Go.RowKit
set_option linter.unusedSimpArgs false
set_option linter.unusedVariables false
/-- A check as a value. -/
def aFn (F : FP) (k : Nat) : Value := .func (.func k) #[.pointer (some ⟨F.fb, 0, none⟩)] #[]
structure AuC (w wr : World) (F : FP) : Prop where
  c : ∀ i, i < 7 → wr.cell? ⟨w.heap.size, i, none⟩ = some (aFn F (9 + i))
  lt : w.heap.size < wr.heap.size
  bel : Below w.heap.size w wr
theorem AuC.ex {w wr : World} {F : FP} (h : AuC w wr F) (z : World) : AuC w (wr.ext z) F :=
  ⟨fun i hi => (World.cell?_of_block (World.block_ext wr z _ h.lt)).trans (h.c i hi), by have := h.lt; simp; omega, h.bel.ex z⟩
set_option maxRecDepth 20000 in
set_option maxHeartbeats 4000000 in
theorem audit_ok (F : FP) (sb cb tb db NN : Nat) (dist : Nat → Nat → Int) (dia : Int) (D : Array Value) (eb xb cp : Nat) (ao : Option Addr) (w : World) (h : Flo w F sb cb tb db NN dist dia D) (hE : Edg w F eb ao xb cp) :
    Calls Tryf.prog 6 #[.pointer (some ⟨F.fb, 0, none⟩)] w fun e w' => e = .returned .nilIface ∧ ∃ z, w' = w.ext z := by
  have H := hid h
  have HE := hid hE
  clear h hE
  go_enter Tryf.func6, Tryf.ntmps6
  go_wp2
  go_loopw [24] (fun v wr => ∃ i : Nat, v = .int .i64 (i) ∧ i ≤ 7 ∧ AuC w wr F) (fun v _ => 7 - (intOf v).toNat)
  case atStart =>
    refine ⟨0, rfl, by omega, fun i hi => ?_, by simp, by (repeat (first | with_reducible exact Below.rf _ | with_reducible exact World.below_ext _ _ | with_reducible refine Below.ex ?_ _ | with_reducible refine Below.al ?_ _ | with_reducible refine Below.setCell ?_ (by simp) _ | with_reducible refine Below.drew ?_))⟩
    rcases (by omega : i = 0 ∨ i = 1 ∨ i = 2 ∨ i = 3 ∨ i = 4 ∨ i = 5 ∨ i = 6) with rfl | rfl | rfl | rfl | rfl | rfl | rfl <;> simp [go_sem, ↓IntWalk.iteOmega, aFn]
  case round =>
    obtain ⟨i, rfl, hi, hA⟩ := hrel
    have HA := hid hA
    have hlt := hA.lt
    have HF := hid (H.out.below hA.bel)
    have HEr := hid (HE.out.below hA.bel)
    have hN := H.out.hN
    clear hA
    by_cases e : i < 7
    · rcases (by omega : i = 0 ∨ i = 1 ∨ i = 2 ∨ i = 3 ∨ i = 4 ∨ i = 5 ∨ i = 6) with e2 | e2 | e2 | e2 | e2 | e2 | e2
      · subst e2
        have c0 : wr.cell? ⟨w.heap.size, 0, none⟩ = some (.func (.func 9) #[.pointer (some ⟨F.fb, 0, none⟩)] #[]) := HA.out.c 0 (by omega)
        go_wp2_with (go_at_call 9; refine (audNum F wr HF.out.fl).mono ?_; rintro e w' ⟨rfl, z, rfl⟩)
        go_roundw
        case rel => exact ⟨0 + 1, by go_num, by omega, HA.out.ex z⟩
        case measure => simp [intOf]
      · subst e2
        have c0 : wr.cell? ⟨w.heap.size, 1, none⟩ = some (.func (.func 10) #[.pointer (some ⟨F.fb, 0, none⟩)] #[]) := HA.out.c 1 (by omega)
        go_wp2_with (go_at_call 10; refine (audAdj F sb cb wr HF.out.fl HF.out.lk hN.2).mono ?_; rintro e w' ⟨rfl, z, rfl⟩)
        go_roundw
        case rel => exact ⟨1 + 1, by go_num, by omega, HA.out.ex z⟩
        case measure => simp [intOf]
      · subst e2
        have c0 : wr.cell? ⟨w.heap.size, 2, none⟩ = some (.func (.func 11) #[.pointer (some ⟨F.fb, 0, none⟩)] #[]) := HA.out.c 2 (by omega)
        go_wp2_with (go_at_call 11; refine (audEdges F sb cb eb xb cp ao wr HF.out.fl HF.out.lk hN.2 HEr.out).mono ?_; rintro e w' ⟨rfl, z, rfl⟩)
        go_roundw
        case rel => exact ⟨2 + 1, by go_num, by omega, HA.out.ex z⟩
        case measure => simp [intOf]
      · subst e2
        have c0 : wr.cell? ⟨w.heap.size, 3, none⟩ = some (.func (.func 12) #[.pointer (some ⟨F.fb, 0, none⟩)] #[]) := HA.out.c 3 (by omega)
        go_wp2_with (go_at_call 12; refine (audBays F sb cb wr HF.out.fl HF.out.lk hN.2).mono ?_; rintro e w' ⟨rfl, z, rfl⟩)
        go_roundw
        case rel => exact ⟨3 + 1, by go_num, by omega, HA.out.ex z⟩
        case measure => simp [intOf]
      · subst e2
        have c0 : wr.cell? ⟨w.heap.size, 4, none⟩ = some (.func (.func 13) #[.pointer (some ⟨F.fb, 0, none⟩)] #[]) := HA.out.c 4 (by omega)
        go_wp2_with (go_at_call 13; refine (audConn F eb xb cp ao wr HF.out.fl hN HEr.out).mono ?_; rintro e w' ⟨rfl, z, rfl⟩)
        go_roundw
        case rel => exact ⟨4 + 1, by go_num, by omega, HA.out.ex z⟩
        case measure => simp [intOf]
      · subst e2
        have c0 : wr.cell? ⟨w.heap.size, 5, none⟩ = some (.func (.func 14) #[.pointer (some ⟨F.fb, 0, none⟩)] #[]) := HA.out.c 5 (by omega)
        go_wp2_with (go_at_call 14; refine (audSlots F wr HF.out.fl).mono ?_; rintro e w' ⟨rfl, z, rfl⟩)
        go_roundw
        case rel => exact ⟨5 + 1, by go_num, by omega, HA.out.ex z⟩
        case measure => simp [intOf]
      · subst e2
        have c0 : wr.cell? ⟨w.heap.size, 6, none⟩ = some (.func (.func 15) #[.pointer (some ⟨F.fb, 0, none⟩)] #[]) := HA.out.c 6 (by omega)
        go_wp2_with (go_at_call 15; refine (audDist F sb cb tb db NN dist dia D wr HF.out).mono ?_; rintro e w' ⟨rfl, z, rfl⟩)
        go_roundw
        case rel => exact ⟨6 + 1, by go_num, by omega, HA.out.ex z⟩
        case measure => simp [intOf]
    · have hie : 7 ≤ i := by omega
      go_wp2
      go_ret
      exact ⟨rfl, HA.out.bel.is_ext⟩
end Go.Proofs.Qxb6500715aFmt
