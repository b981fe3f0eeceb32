/-
  CheckWalk and IsWalk on a row of cells that is a walk.
-/
import Derived.Test.Qxb6500715aDoorTab2
import Derived.Test.Qxb6500715aDoorTrl
namespace Go.Proofs.Qxb6500715aDoor
open Go.RowKit
set_option linter.unusedSimpArgs false
set_option linter.unusedVariables false

/-- The row's cells. -/
def RowIs (w : World) (g : Nat) (T : List Nat) : Prop := ∀ (i c : Nat), T[i]? = some c → w.cell? ⟨g, i, none⟩ = some (.int .i64 (c))

theorem RowIs.below {w w' : World} {g : Nat} {T : List Nat} (h : RowIs w g T) (hg : g < w.heap.size) (hb : Below w.heap.size w w') : RowIs w' g T :=
  fun i c hc => (World.cell?_of_block (hb.block _ hg)).trans (h i c hc)

set_option maxHeartbeats 1000000 in
theorem checkWalk_ok (F : FP) (sb cb g m cp : Nat) (T : List Nat) (st : Bool) (w : World) (h : FlN w F) (hl : Lnk w F sb cb) (hN : F.N ≤ 384) (hg : g < w.heap.size) (hT : Wlk F T) (hm : T.length = m) (h1 : 1 ≤ m) (h2 : m ≤ 100000) (hr : RowIs w g T) :
    Calls Tryd.prog 55 #[.pointer (some ⟨F.fb, 0, none⟩), .slice (some ⟨g, 0, none⟩) m cp, .bool st] w fun e w' => e = .returned (.tuple #[.int .i64 (0), .int .i64 (-1)]) ∧ w' = w := by
  have HH := hid h
  have HL := hid hl
  have HT := hid hT
  have HR := hid hr
  have HM := hid hm
  have HP := hid h.plain
  have b0 : ((m : Int) == 0) = false := by simp; omega
  clear h hl hT hr hm
  go_enter Tryd.func55, Tryd.ntmps55
  go_wp2
  go_loopw [16] (fun x wr => ∃ t : Nat, x = .int .i64 (t) ∧ t ≤ m ∧ wr = w) (fun x _ => m - (intOf x).toNat)
  case atStart => exact ⟨0, rfl, Nat.zero_le _, rfl⟩
  case round =>
    obtain ⟨t, rfl, ht, rfl⟩ := hrel
    by_cases hlt : t < m
    · have hta : t < T.length := by rw [HM.out]; exact hlt
      have hct : T[t]? = some T[t] := List.getElem?_eq_getElem hta
      generalize T[t] = c at hct
      have hcN := HT.out.lt t c hct
      have ct := HR.out t c hct
      have bt : decide ((t : Int) < m) = true := by simp; omega
      cases t with
      | zero =>
        clear hct hta
        go_wp2_with (go_at_call 50; refine (valid_yes F c _ HH.out hcN).mono ?_; rintro e w' ⟨rfl, rfl⟩)
        go_roundw
        case rel => exact ⟨1, by go_num, by omega, by trivial⟩
        case measure => simp [intOf]; omega
      | succ t =>
        have hpt : T[t]? = some T[t] := List.getElem?_eq_getElem (by omega)
        generalize T[t] = p at hpt
        have hpN := HT.out.lt t p hpt
        have pt := HR.out t p hpt
        have hadj := HT.out.ad t p c hpt hct
        have hne : p ≠ c := fun e => adj_ne HP.out hpN (by rw [e] at hadj ⊢; exact hadj)
        have hent : 0 ≤ F.ent p c := (fnd_mem c (F.adj p) (F.st p)).2 hadj
        obtain ⟨en, hen⟩ : ∃ en, F.ent p c = en := ⟨_, rfl⟩
        rw [hen] at hent
        have HE := hid hen
        have bne : ((p : Int) == c) = false := by simp; omega
        have bt0 : (((t + 1 : Nat) : Int) == 0) = false := by simp; omega
        clear hct hpt hta hadj hen
        go_wp2_with (first | (go_at_call 50; refine (valid_yes F c _ HH.out hcN).mono ?_; rintro e w' ⟨rfl, rfl⟩) | (go_at_call 51; refine (HE.out ▸ entry_any F sb cb p c _ HL.out hN hpN).mono ?_; rintro e w' ⟨rfl, rfl⟩))
        go_roundw
        case rel => exact ⟨t + 2, by go_num, by omega, by trivial⟩
        case measure => simp [intOf]; omega
    · go_wp2
      go_ret2
      exact ⟨rfl, rfl⟩

theorem isWalk_ok (F : FP) (sb cb g m cp : Nat) (T : List Nat) (w : World) (h : FlN w F) (hl : Lnk w F sb cb) (hN : F.N ≤ 384) (hg : g < w.heap.size) (hT : Wlk F T) (hm : T.length = m) (h1 : 1 ≤ m) (h2 : m ≤ 100000) (hr : RowIs w g T) :
    Calls Tryd.prog 24 #[.pointer (some ⟨F.fb, 0, none⟩), .slice (some ⟨g, 0, none⟩) m cp] w fun e w' => e = .returned (.bool true) ∧ w' = w := by
  have hc := checkWalk_ok F sb cb g m cp T false w h hl hN hg hT hm h1 h2 hr
  clear h hl hT hm hr
  go_enter Tryd.func24, Tryd.ntmps24
  go_wp2_with (go_at_call 55; refine hc.mono ?_; rintro e w' ⟨rfl, rfl⟩)
  go_ret
  exact ⟨rfl, rfl⟩
end Go.Proofs.Qxb6500715aDoor
