/-
  Valid, Cells, Neighbors, Adjacent.
-/
import Derived.Test.Qxb6500715aFmtEntry
namespace Go.Proofs.Qxb6500715aFmt
open Go.RowKit
set_option linter.unusedSimpArgs false
set_option linter.unusedVariables false

theorem cells_any (F : FP) (w : World) (h : FlN w F) : Calls Tryf.prog 30 #[.pointer (some ⟨F.fb, 0, none⟩)] w fun e w' => e = .returned (.int .i64 (F.N)) ∧ w' = w := by
  have i11 := h.num.i11
  have hq := h.num.qc
  clear h
  go_enter Tryf.func30, Tryf.ntmps30
  go_wp2
  go_ret
  exact ⟨rfl, rfl⟩

theorem valid_yes (F : FP) (c : Nat) (w : World) (h : FlN w F) (hc : c < F.N) : Calls Tryf.prog 20 #[.pointer (some ⟨F.fb, 0, none⟩), .int .i64 (c)] w fun e w' => e = .returned (.bool true) ∧ w' = w := by
  have i11 := h.num.i11
  clear h
  go_enter Tryf.func20, Tryf.ntmps20
  go_wp2
  go_ret
  exact ⟨rfl, rfl⟩

/-- Where a cell's list begins, as 'Neighbors' says it. -/
def FP.no (F : FP) (c : Nat) : Nat := if (F.adj c).length = 0 then 0 else F.st c
def FP.nbs (F : FP) (cb c : Nat) : Value := .slice (some ⟨cb, F.no c, none⟩) (F.adj c).length (F.adj c).length

theorem slice_3 (b cap lo hi : Nat) (h1 : lo ≤ hi) (h2 : hi ≤ cap) (len : Nat) (w : World) :
    (Instr.sliceAt 52 (.slice (some ⟨b, 0, none⟩) len cap) (some (.int .i64 (lo))) (some (.int .i64 (hi))) (some (.int .i64 (hi)))).run Tryf.prog w = .ok (.slice (some ⟨b, if hi - lo = 0 then 0 else lo, none⟩) (hi - lo) (hi - lo)) w := by
  have he : (Tryf.prog).elem 52 = 50 := by simp [Program.elem, Tryf.underlying52]
  have ht' : (Tryf.prog).underlying 52 = some (.slice ((Tryf.prog).elem 52)) := by rw [he]; exact Tryf.underlying52
  rw [run_sliceAt_slice _ _ _ _ _ _ ht', run_slice_lhm _ _ _ _ _ ht' _ _ _ _ _ _ (by omega) (by omega) (by omega) (by omega)]
  have hsz : (sizeOf ((Tryf.prog).elem 52)).run Tryf.prog w = .ok 1 w := by rw [he]; kernel_rfl
  rw [hsz]
  simp only [Result.andThen, sliced, Int.toNat_natCast]
  by_cases h : hi = lo
  · subst h; simp
  · rw [if_neg h, if_neg (by omega)]
    simp [Addr.add_lit]

set_option maxHeartbeats 1000000 in
theorem neighbors_any (F : FP) (sb cb c : Nat) (w : World) (h : FlN w F) (hl : Lnk w F sb cb) (hN : F.N ≤ 384) (hc : c < F.N) :
    Calls Tryf.prog 23 #[.pointer (some ⟨F.fb, 0, none⟩), .int .i64 (c)] w fun e w' => e = .returned (F.nbs cb c) ∧ ∃ z, w' = w.ext z := by
  have HH := hid h
  obtain ⟨k15, k16, hfb, ⟨hsb, hcb⟩, sv, cv⟩ := hl
  have s0 := sv c (by omega)
  have s1 := sv (c + 1) (by omega)
  rw [F.st_succ] at s1
  have hst : F.st c + (F.adj c).length ≤ F.st F.N := by rw [← F.st_succ]; exact F.st_mono (by omega)
  have hfl : F.st F.N ≤ 4 * F.N := F.flat_len F.N
  unfold FP.nbs FP.no
  generalize F.st c = sa at *
  generalize (F.adj c).length = la at *
  have hsl := slice_3 cb (4 * F.N) sa (sa + la) (by omega) (by omega) (F.st F.N)
  rw [show sa + la - sa = la by omega] at hsl
  have e1 : ((sa + la : Nat) : Int) = (sa : Int) + la := rfl
  rw [e1] at hsl
  generalize (if la = 0 then 0 else sa) = no at *
  clear sv cv h e1
  go_enter Tryf.func23, Tryf.ntmps23
  go_wp2_with (go_at_call 20; refine (valid_yes F c _ HH.out hc).mono ?_; rintro e w' ⟨rfl, rfl⟩)
  first | with_reducible refine wp_region_ext2 (by kernel_rfl) (by kernel_rfl) ?_ | refine wp_region_ext (by kernel_rfl) (by kernel_rfl) ?_
  repeat (go_big_quiet_step (fail))
  refine wpQuiet_nil ?_
  rintro _ ⟨z, rfl⟩
  go_wp2
  go_ret
  exact ⟨rfl, ⟨_, rfl⟩⟩

theorem neighbors_is (F : FP) (sb cb c la no : Nat) (w : World) (h : FlN w F) (hl : Lnk w F sb cb) (hN : F.N ≤ 384) (hc : c < F.N) (hla : (F.adj c).length = la) (hno : F.no c = no) :
    Calls Tryf.prog 23 #[.pointer (some ⟨F.fb, 0, none⟩), .int .i64 (c)] w fun e w' => e = .returned (.slice (some ⟨cb, no, none⟩) la la) ∧ ∃ z, w' = w.ext z := by
  have := neighbors_any F sb cb c w h hl hN hc
  rwa [FP.nbs, hla, hno] at this

theorem Lnk.nb {w : World} {F : FP} {sb cb : Nat} (h : Lnk w F sb cb) {c j : Nat} (hc : c < F.N) (hj : j < (F.adj c).length) : w.cell? ⟨cb, F.no c + j, none⟩ = some (.int .i64 ((F.adj c)[j])) := by
  rw [FP.no, if_neg (by omega)]
  exact h.cv _ _ (by rw [F.flat_get c j F.N hc hj]; exact List.getElem?_eq_getElem hj)

end Go.Proofs.Qxb6500715aFmt
