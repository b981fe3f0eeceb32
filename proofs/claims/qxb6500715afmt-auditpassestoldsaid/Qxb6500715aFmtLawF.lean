/-
  AuditPasses: the walk.
-/
import Derived.Test.Qxb6500715aFmtAud
import Derived.Test.Qxb6500715aFmtFlrs
import Derived.Test.Qxb6500715aFmtNone
namespace Go.Proofs.Qxb6500715aFmt
open Go.RowKit
set_option linter.unusedSimpArgs false
set_option linter.unusedVariables false
theorem ptr_at {w wr : World} {v : Value} {fbs : List Nat} (h : FlrsAt w wr v fbs) {i : Nat} (hi : i < fbs.length) :
    ∃ g cap fb, v = .slice (some ⟨g, 0, none⟩) fbs.length cap ∧ fbs.length ≤ cap ∧ g < wr.heap.size ∧ fb ∈ fbs ∧ wr.cell? ⟨g, i, none⟩ = some (.pointer (some ⟨fb, 0, none⟩)) := by
  obtain ⟨g, cap, hv, hc, h1, h2, hcells⟩ := ownsRow_cells h.own (by omega)
  exact ⟨g, cap, fbs[i], hv, hc, h2, List.getElem_mem hi, hcells i _ (by simp [ptrs, List.getElem?_eq_getElem hi])⟩
set_option maxRecDepth 20000 in
set_option maxHeartbeats 4000000 in
theorem lawF (sb so n cap : Nat) (K A B : Nat → Int) (dao : Nat → Option Addr) (dlen dcap : Nat → Nat) (f : Nat → Nat → Int) (w : World) (hG : Globs w) (hDr : Dirs w) (hS : Script w sb so n K A B dao dlen dcap f) (hn : n ≤ 9223372036854775807) :
    Calls Tryf.prog 3 #[.slice (some ⟨sb, so, none⟩) n cap] w fun e w' => e = .returned (.bool true) ∧ ∃ z, w' = w.ext z := by
  have HS := hid hS
  have HG := hid hG
  have HDR := hid hDr
  clear hS hG hDr
  go_enter Tryf.func3, Tryf.ntmps3
  go_wp2_with fail
  refine (small_any sb so n cap dao dlen dcap w hn HS.out.hD (fun i hi => (HS.out.hlen i hi).2)).mono ?_
  rintro e w1 ⟨b, rfl, hb, hw1⟩
  obtain rfl : w = w1 := hw1.symm
  clear hw1
  cases b with
  | false =>
    go_wp2
    go_ret
    exact ⟨rfl, (Below.rf _).is_ext⟩
  | true =>
    obtain ⟨hn1, hdl⟩ := hb rfl
    have HDL := hid hdl
    clear hb hdl
    go_wp2_with fail
    refine (floors_any sb so n cap K A B dao dlen dcap f w HS.out HG.out HDR.out hn1 HDL.out).mono ?_
    rintro e w1 ⟨v, fbs, rfl, hfl, hF⟩
    obtain ⟨ao, cp, rfl⟩ : ∃ ao cp, v = .slice ao fbs.length cp := by
      rcases hF.own.2 with ⟨h1, h2⟩ | ⟨g, cap, cur, h1, _⟩
      · exact ⟨none, 0, by rw [h2]; exact h1⟩
      · exact ⟨some ⟨g, 0, none⟩, cap, h1⟩
    have HF := hid hF
    obtain ⟨m, hm⟩ : ∃ m, fbs.length = m := ⟨_, rfl⟩
    have HM := hid hm
    rw [hm] at hfl ⊢
    clear hF hm
    go_wp2_with fail
    go_loopw [11] (fun x wr => ∃ i : Nat, i ≤ m ∧ x = .int .i64 (i) ∧ Below w1.heap.size w1 wr) (fun x _ => m - (intOf x).toNat)
    case atStart => exact ⟨0, Nat.zero_le _, rfl, Below.rf _⟩
    case round =>
      obtain ⟨i, hi, rfl, hB⟩ := hrel
      have HB := hid hB
      have hsz := hB.size
      by_cases hlt : i < m
      · obtain ⟨g, cap', fb, hv, hcap, hg, hmem, hcell⟩ := ptr_at (HF.out.ext hB) (i := i) (by rw [HM.out]; exact hlt)
        simp only [Value.slice.injEq] at hv
        obtain ⟨rfl, -, rfl⟩ := hv
        obtain ⟨F, sb2, cb2, tb, db, NN, dist, dia, D, rfl, hFlo, -, eb, ao2, xb, cp2, hE, -, -⟩ := (HF.out.ext hB).has fb hmem
        rw [HM.out] at hcap
        have AU := hid (audit_ok F sb2 cb2 tb db NN dist dia D eb xb cp2 ao2 wr hFlo hE)
        have bi : decide ((i : Int) < m) = true := by simp; omega
        clear hmem hB hFlo hE
        go_wp2_with (go_at_call 6; refine AU.out.mono ?_; rintro e w3 ⟨rfl, z, rfl⟩)
        go_roundw
        case rel => exact ⟨i + 1, by omega, by go_num, HB.out.ex _⟩
        case measure => simp [intOf]; omega
      · go_wp2
        go_ret
        exact ⟨rfl, (HF.out.below.trans (HB.out.mono HF.out.below.size)).is_ext⟩
theorem lawF_none (ao : Option Addr) (cap : Nat) (w : World) : Calls Tryf.prog 3 #[.slice ao 0 cap] w fun e w' => e = .returned (.bool true) ∧ ∃ z, w' = w.ext z := by
  go_enter Tryf.func3, Tryf.ntmps3
  go_wp2_with fail
  refine (small_none0 ao cap w).mono ?_
  rintro e w1 ⟨rfl, hw1⟩
  obtain rfl : w = w1 := hw1.symm
  clear hw1
  go_wp2_with fail
  refine (floors_none ao cap w).mono ?_
  rintro e w1 ⟨rfl, hw1⟩
  obtain rfl : w = w1 := hw1.symm
  clear hw1
  go_wp2_with fail
  refine wp_loop_once ?_
  go_wp2
  go_ret
  exact ⟨rfl, (Below.rf _).is_ext⟩
end Go.Proofs.Qxb6500715aFmt
