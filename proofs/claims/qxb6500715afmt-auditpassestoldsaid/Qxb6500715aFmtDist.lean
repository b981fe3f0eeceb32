/-
  aisleDist, gatePos, anchor, Dist.
-/
import Derived.Test.Qxb6500715aFmtAd
import Derived.Test.Qxb6500715aFmtPark
namespace Go.Proofs.Qxb6500715aFmt
open Go.RowKit
set_option linter.unusedSimpArgs false
set_option linter.unusedVariables false

theorem aisleDist_any (A P S : Nat) (D rr cc : Int) (pk : Value) (r1 q1 r2 q2 : Nat) (w : World) (hA : 1 ≤ A ∧ A ≤ 8) (hP : 2 ≤ P ∧ P ≤ 3) (hS : 1 ≤ S ∧ S ≤ 12) (h1 : onA A P S r1 q1) (h2 : onA A P S r2 q2) :
    Calls Tryf.prog 64 #[.agg #[.int .i64 (A), .int .i64 (S), .int .i64 (P), .int .i64 D, .int .i64 rr, .int .i64 cc, pk], .agg #[.int .i64 (r1), .int .i64 (q1)], .agg #[.int .i64 (r2), .int .i64 (q2)]] w fun e w' => e = .returned (.int .i64 (ad A P S r1 q1 r2 q2)) ∧ ∃ z, w' = w.ext z := by
  have hw : (A - 1) * P ≤ 21 := Nat.mul_le_mul (show A - 1 ≤ 7 by omega) hP.2
  have k1 := h1.1
  have k2 := h2.1
  have b1 : 1 ≤ r1 ∧ r1 ≤ S + 2 := by have := h1.2; omega
  have b2 : 1 ≤ r2 ∧ r2 ≤ S + 2 := by have := h2.2; omega
  have hx : cX A P q1 q2 ≤ 90 := by
    obtain ⟨x, hx, e⟩ := cX_at (c2 := q2) hP.1 hA.1 k1
    have := isAc_lt hx
    rw [e]; unfold nab; omega
  have ht := cX_tri A P q1 q2
  have b3 : nab r1 r2 ≤ 100 ∧ nab q1 q2 ≤ 100 ∧ cX A P q1 q2 - nab q1 q2 ≤ 100 := by unfold nab; omega
  have hac : Hid (∀ w', Calls Tryf.prog 24 #[.int .i64 ((q1 : Int) - q2)] w' fun e w'' => e = .returned (.int .i64 (nab q1 q2)) ∧ w'' = w') := fun w' => abs_nab q1 q2 w' (by omega) (by omega)
  have hal : Hid (∀ w', Calls Tryf.prog 24 #[.int .i64 ((r1 : Int) - r2)] w' fun e w'' => e = .returned (.int .i64 (nab r1 r2)) ∧ w'' = w') := fun w' => abs_nab r1 r2 w' (by omega) (by omega)
  have hX : Hid (∀ w', Calls Tryf.prog 78 #[.agg #[.int .i64 (A), .int .i64 (S), .int .i64 (P), .int .i64 D, .int .i64 rr, .int .i64 cc, pk], .int .i64 (q1), .int .i64 (q2)] w' fun e w'' => e = .returned (.tuple #[.int .i64 (cCol A P (min q1 q2) (max q1 q2)), .int .i64 ((cX A P q1 q2 - nab q1 q2 : Nat))]) ∧ ∃ z, w'' = w'.ext z) := fun w' => crossing_any A P S D rr cc pk q1 q2 w' hA hP (by omega) (by omega)
  have b4 : q1 ≤ 30 ∧ q2 ≤ 30 := by omega
  have hq0 : q1 = q2 → nab q1 q2 ≤ 0 := fun e => by unfold nab; omega
  have hq1 : q1 ≠ q2 → 1 ≤ nab q1 q2 := fun e => by unfold nab; omega
  rcases (by omega : r1 ≤ 1 ∨ S + 2 ≤ r1 ∨ (2 ≤ r1 ∧ r1 ≤ S + 1)) with g1 | g1 | g1 <;> rcases (by omega : r2 ≤ 1 ∨ S + 2 ≤ r2 ∨ (2 ≤ r2 ∧ r2 ≤ S + 1)) with g2 | g2 | g2 <;> by_cases hq : q1 = q2
  · exact ad_FFe A P S D rr cc pk r1 q1 r2 q2 _ _ _ _ _ w hS.2 b1 b2 b3 b4 hac hal hX g1 g2 (hq0 hq) (show _ = _ by rw [ad_same (by omega) (by omega)])
  · exact ad_FFn A P S D rr cc pk r1 q1 r2 q2 _ _ _ _ _ w hS.2 b1 b2 b3 b4 hac hal hX g1 g2 (hq1 hq) (show _ = _ by rw [ad_same (by omega) (by omega)])
  · exact ad_FBe A P S D rr cc pk r1 q1 r2 q2 _ _ _ _ _ w hS.2 b1 b2 b3 b4 hac hal hX g1 g2 (hq0 hq) (show _ = _ by rw [ad_diff (by omega) (by omega) (by omega)]; omega)
  · exact ad_FBn A P S D rr cc pk r1 q1 r2 q2 _ _ _ _ _ w hS.2 b1 b2 b3 b4 hac hal hX g1 g2 (hq1 hq) (show _ = _ by rw [ad_diff (by omega) (by omega) (by omega)]; omega)
  · exact ad_FIe A P S D rr cc pk r1 q1 r2 q2 _ _ _ _ _ w hS.2 b1 b2 b3 b4 hac hal hX g1 g2 (hq0 hq) (show _ = _ by rw [ad_xi (by omega) (by omega)]; have := hq0 hq; omega)
  · exact ad_FIn A P S D rr cc pk r1 q1 r2 q2 _ _ _ _ _ w hS.2 b1 b2 b3 b4 hac hal hX g1 g2 (hq1 hq) (show _ = _ by rw [ad_xi (by omega) (by omega)])
  · exact ad_BFe A P S D rr cc pk r1 q1 r2 q2 _ _ _ _ _ w hS.2 b1 b2 b3 b4 hac hal hX g1 g2 (hq0 hq) (show _ = _ by rw [ad_diff (by omega) (by omega) (by omega)]; omega)
  · exact ad_BFn A P S D rr cc pk r1 q1 r2 q2 _ _ _ _ _ w hS.2 b1 b2 b3 b4 hac hal hX g1 g2 (hq1 hq) (show _ = _ by rw [ad_diff (by omega) (by omega) (by omega)]; omega)
  · exact ad_BBe A P S D rr cc pk r1 q1 r2 q2 _ _ _ _ _ w hS.2 b1 b2 b3 b4 hac hal hX g1 g2 (hq0 hq) (show _ = _ by rw [ad_same (by omega) (by omega)])
  · exact ad_BBn A P S D rr cc pk r1 q1 r2 q2 _ _ _ _ _ w hS.2 b1 b2 b3 b4 hac hal hX g1 g2 (hq1 hq) (show _ = _ by rw [ad_same (by omega) (by omega)])
  · exact ad_BIe A P S D rr cc pk r1 q1 r2 q2 _ _ _ _ _ w hS.2 b1 b2 b3 b4 hac hal hX g1 g2 (hq0 hq) (show _ = _ by rw [ad_xi (by omega) (by omega)]; have := hq0 hq; omega)
  · exact ad_BIn A P S D rr cc pk r1 q1 r2 q2 _ _ _ _ _ w hS.2 b1 b2 b3 b4 hac hal hX g1 g2 (hq1 hq) (show _ = _ by rw [ad_xi (by omega) (by omega)])
  · exact ad_IFe A P S D rr cc pk r1 q1 r2 q2 _ _ _ _ _ w hS.2 b1 b2 b3 b4 hac hal hX g1 g2 (hq0 hq) (show _ = _ by rw [ad_ix (by omega) (by omega)]; have := hq0 hq; omega)
  · exact ad_IFn A P S D rr cc pk r1 q1 r2 q2 _ _ _ _ _ w hS.2 b1 b2 b3 b4 hac hal hX g1 g2 (hq1 hq) (show _ = _ by rw [ad_ix (by omega) (by omega)])
  · exact ad_IBe A P S D rr cc pk r1 q1 r2 q2 _ _ _ _ _ w hS.2 b1 b2 b3 b4 hac hal hX g1 g2 (hq0 hq) (show _ = _ by rw [ad_ix (by omega) (by omega)]; have := hq0 hq; omega)
  · exact ad_IBn A P S D rr cc pk r1 q1 r2 q2 _ _ _ _ _ w hS.2 b1 b2 b3 b4 hac hal hX g1 g2 (hq1 hq) (show _ = _ by rw [ad_ix (by omega) (by omega)])
  · exact ad_IIe A P S D rr cc pk r1 q1 r2 q2 _ _ _ _ _ w hS.2 b1 b2 b3 b4 hac hal hX g1 g2 (hq0 hq) (show _ = _ by rw [ad_iis (by omega) (by omega) hq])
  · rcases Nat.lt_trichotomy (r1 - 1 + (r2 - 1)) (S + 2 - r1 + (S + 2 - r2)) with ho | ho | ho
    · exact ad_IIn1 A P S D rr cc pk r1 q1 r2 q2 _ _ _ _ _ w hS.2 b1 b2 b3 b4 hac hal hX g1 g2 (hq1 hq) (show _ = _ by rw [ad_iid (by omega) (by omega) hq]; omega) ho
    · exact ad_IIn2 A P S D rr cc pk r1 q1 r2 q2 _ _ _ _ _ w hS.2 b1 b2 b3 b4 hac hal hX g1 g2 (hq1 hq) (show _ = _ by rw [ad_iid (by omega) (by omega) hq]; omega) (by omega)
    · exact ad_IIn3 A P S D rr cc pk r1 q1 r2 q2 _ _ _ _ _ w hS.2 b1 b2 b3 b4 hac hal hX g1 g2 (hq1 hq) (show _ = _ by rw [ad_iid (by omega) (by omega) hq]; omega) ho
end Go.Proofs.Qxb6500715aFmt
