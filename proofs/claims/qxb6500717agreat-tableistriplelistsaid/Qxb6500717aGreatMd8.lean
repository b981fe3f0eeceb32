/-
  The model: Path.
-/
import Derived.Test.Qxb6500717aGreatMd7
namespace Go.Proofs.Qxb6500717aGreat
open Go.RowKit
set_option linter.unusedSimpArgs false
set_option linter.unusedVariables false
set_option maxRecDepth 20000
set_option maxHeartbeats 4000000

def MdS.fits (S : MdS) : Prop := S.tr.length + S.sp.length ≤ S.cap
section
variable {S : MdS}
theorem MdS.reserve_no {r c t : Int} (h : (S.reserve r c t).1 ≠ 0) : (S.reserve r c t).2 = S := by
  unfold MdS.reserve at h ⊢
  split
  · rfl
  · rename_i h1
    rw [if_neg h1] at h
    split
    · rfl
    · rename_i h2
      rw [if_neg h2] at h
      split
      · rfl
      · rename_i h3
        rw [if_neg h3] at h
        split
        · rfl
        · rename_i h4
          rw [if_neg h4] at h
          split
          · rfl
          · rename_i h5
            rw [if_neg h5] at h
            exact absurd rfl h
theorem MdS.place_zero {r c t : Int} (hp : S.place r c t = 0) : (0 ≤ r ∧ r < (S.nr : Int)) ∧ (0 ≤ c ∧ c < (S.nc : Int)) ∧ (S.base : Int) ≤ t ∧ t < (S.base : Int) + 256 := by
  unfold MdS.place at hp
  split at hp
  · omega
  · next hx =>
    simp only [Bool.and_eq_false_iff, decide_eq_false_iff_not] at hx
    split at hp
    · omega
    · split at hp <;> omega
theorem MdS.reserve_yes {r c t : Int} (h : (S.reserve r c t).1 = 0) : ∃ rn cn tn : Nat, r = rn ∧ c = cn ∧ t = tn ∧ rn < S.nr ∧ cn < S.nc ∧ (S.base ≤ tn ∧ tn < S.base + 256) ∧ S.at rn tn = -1 ∧ S.hold cn tn = -1 ∧ (S.add rn cn tn).swapAt ((tn : Int) - 1) = false ∧ (S.add rn cn tn).swapAt tn = false ∧ S.tr.length + 1 + S.sp.length ≤ S.cap ∧ (S.reserve r c t).2 = S.add rn cn tn := by
  unfold MdS.reserve at h ⊢
  by_cases h1 : S.place r c t ≠ 0
  · rw [if_pos h1] at h; exact absurd h h1
  · rw [if_neg h1] at h ⊢
    have hp0 : S.place r c t = 0 := by simpa using h1
    obtain ⟨⟨r0, r1⟩, ⟨q0, q1⟩, t0, t1⟩ := MdS.place_zero hp0
    obtain ⟨rn, rfl⟩ : ∃ rn : Nat, r = rn := ⟨r.toNat, by omega⟩
    obtain ⟨cn, rfl⟩ : ∃ cn : Nat, c = cn := ⟨c.toNat, by omega⟩
    obtain ⟨tn, rfl⟩ : ∃ tn : Nat, t = tn := ⟨t.toNat, by omega⟩
    simp only [Int.toNat_natCast] at h ⊢
    by_cases h2 : S.at rn tn ≠ -1
    · rw [if_pos h2] at h; simp at h
    · rw [if_neg h2] at h ⊢
      by_cases h3 : S.hold cn tn ≠ -1
      · rw [if_pos h3] at h; simp at h
      · rw [if_neg h3] at h ⊢
        by_cases h4 : ((S.add rn cn tn).swapAt ((tn : Int) - 1) || (S.add rn cn tn).swapAt tn) = true
        · rw [if_pos h4] at h; simp at h
        · rw [if_neg h4] at h ⊢
          by_cases h5 : S.cap < S.tr.length + 1 + S.sp.length
          · rw [if_pos h5] at h; simp at h
          · rw [if_neg h5]
            have h6 := Bool.or_eq_false_iff.1 (by simpa using h4)
            exact ⟨rn, cn, tn, rfl, rfl, rfl, by omega, by omega, by omega, by simpa using h2, by simpa using h3, h6.1, h6.2, by omega, rfl⟩
theorem MdS.fits.reserve (h : S.fits) (r c t : Int) : (S.reserve r c t).2.fits := by
  by_cases h0 : (S.reserve r c t).1 = 0
  · obtain ⟨rn, cn, tn, -, -, -, -, -, -, -, -, -, -, h1, e⟩ := MdS.reserve_yes h0
    rw [e]
    simp only [MdS.fits, MdS.add, List.length_append, List.length_singleton]
    omega
  · rw [MdS.reserve_no h0]; exact h
end
/-- What the model's Path answers and leaves. -/
def MdS.path (r start : Int) (bt : List (Nat × Nat × Nat)) : List Int → Nat → MdS → Int × Nat × MdS
  | [], i, S => (0, i, S)
  | c :: cs, i, S => if (S.reserve r c (start + i)).1 = 0 then MdS.path r start bt cs (i + 1) (S.reserve r c (start + i)).2 else ((S.reserve r c (start + i)).1, i, { S with tr := bt })

def mpathPost (m : Nat) (X : Int × Nat × MdS) (V : MV) (w : World) (e : Ending) (w' : World) : Prop :=
  e = .returned (.tuple #[.int .u8 X.1, .int .i64 (X.2.1)]) ∧ MdX w' m X.2.2 V ∧ KeptBut m w w'

theorem mpath_any (m : Nat) (S : MdS) (V : MV) (r start : Int) (ao : Option Addr) (n cap : Nat) (cs : List Int) (w : World) (h : MdX w m S V) (hf : S.fits) (hn : cs.length = n) (hn2 : n ≤ 100000) (hst : -9223372036854775808 ≤ start ∧ start ≤ 9223372036854775807)
    (hrow : ∀ (i : Nat) (c : Int), cs[i]? = some c → ∃ b o, ao = some ⟨b, o, none⟩ ∧ b < m ∧ w.cell? ⟨b, o + i, none⟩ = some (.int .i64 (c))) :
    Calls Tryz.prog 47 #[.pointer (some ⟨m, 0, none⟩), .int .i64 (r), .int .i64 (start), .slice ao n cap] w (mpathPost m (MdS.path r start S.tr cs 0 S) V w) := by
  have HROW := hid hrow
  have HN := hid hn
  have HH := hid h
  have HF := hid hf
  obtain ⟨v5, a5, b5⟩ := h.z5
  obtain ⟨ao5, cap5, rfl⟩ := b5.val
  have HB5 := hid b5
  have hbt := HH.out.rd.bt.1
  have lt := h.rd.lt
  obtain ⟨res, hres⟩ : ∃ res, MdS.path r start S.tr cs 0 S = res := ⟨_, rfl⟩
  rw [hres]
  have HRES := hid hres
  obtain ⟨tl, htl⟩ : ∃ n, S.tr.length = n := ⟨_, rfl⟩
  rw [htl] at a5 HB5 hbt
  have HTL := hid htl
  clear h hf hn hrow hres b5 htl
  go_enter Tryz.func47, Tryz.ntmps47
  go_wp2
  go_loopw [20] (fun x wr => ∃ (i : Nat) (S1 : MdS), x = .int .i64 (i) ∧ i ≤ n ∧ MdX wr m S1 V ∧ S1.fits ∧ MdS.path r start S.tr (cs.drop i) i S1 = res ∧ (1 ≤ i → 0 ≤ start ∧ start + i ≤ 1500000000) ∧ KeptBut m w wr) (fun x _ => n - (intOf x).toNat)
  case atStart => exact ⟨0, S, rfl, Nat.zero_le _, HH.out, HF.out, HRES.out, by omega, KeptBut.refl _ _⟩
  case round =>
    clear a5
    obtain ⟨i, S1, rfl, hi, hM, hF, hP, hwin, hK⟩ := hrel
    have HM := hid hM
    have HF1 := hid hF
    have HK := hid hK
    have HWIN := hid hwin
    by_cases hlt : i < n
    · have hil : i < cs.length := by rw [HN.out]; exact hlt
      have hci : cs[i]? = some cs[i] := List.getElem?_eq_getElem hil
      have hdr : cs.drop i = cs[i] :: cs.drop (i + 1) := List.drop_eq_getElem_cons hil
      generalize cs[i] = c at *
      obtain ⟨b, o, rfl, hbl, hcell⟩ := HROW.out i c hci
      have cc : wr.cell? ⟨b, o + i, none⟩ = some (.int .i64 (c)) := (hK.cell _ (by omega) (by omega)).trans hcell
      have hsz := hK.size
      rw [hdr] at hP
      simp only [MdS.path] at hP
      have RS := hid (mres_any m S1 V r c (start + i) wr hM hF)
      have hbnd : -9223372036854775808 ≤ start + i ∧ start + i ≤ 9223372036854775807 := by
        by_cases hi0 : i = 0
        · omega
        · have := (HWIN.out (by omega)).2; omega
      have bi : decide ((i : Int) < n) = true := by simp; omega
      cases hcode : decide ((S1.reserve r c (start + i)).1 = 0) with
      | true =>
        have hc0 := of_decide_eq_true hcode
        rw [if_pos hc0] at hP
        have HP := hid hP
        have hy := MdS.reserve_yes hc0
        have HY := hid hy
        have hrange : 0 ≤ start + i ∧ start + i ≤ 1400000000 := by
          obtain ⟨rn, cn, tn, -, -, e, h1, -, h2, -⟩ := hy
          have := HM.out.rd.bn
          omega
        clear hM hF hK hP hcode hy hwin hdr hci hcell
        go_wp2_with (go_at_call 46; refine hold ?_)
        unfold Hid
        refine RS.out.mono ?_
        rintro e w2 ⟨rfl, hT2, hK2⟩
        rw [hc0]
        have HT2 := hid hT2
        have HK2 := hid hK2
        clear hT2 hK2 hc0
        go_wp2
        go_roundw
        case rel =>
          refine ⟨i + 1, _, by go_num, by omega, HT2.out, HF1.out.reserve r c _, HP.out, fun _ => ?_, HK.out.trans HK2.out⟩
          refine ⟨?_, by omega⟩
          by_cases hi0 : i = 0
          · omega
          · exact (HWIN.out (by omega)).1
        case measure => simp [intOf]; omega
      | false =>
        have hc0 := of_decide_eq_false hcode
        rw [if_neg hc0] at hP
        have hno := MdS.reserve_no hc0
        have HP := hid hP
        have HNO := hid hno
        clear hM hF hK hP hcode hwin hdr hci hcell
        go_wp2_with (go_at_call 46; refine hold ?_)
        unfold Hid
        refine RS.out.mono ?_
        rintro e w2 ⟨rfl, hT2, hK2⟩
        rw [HNO.out] at hT2
        obtain ⟨v2, a2, -⟩ := hT2.z5
        have f2 := hT2.fz 5 (by omega)
        have lt2 := hT2.rd.lt
        have HT2 := hid hT2
        have HK2 := hid hK2
        generalize (S1.reserve r c (start + i)).1 = code at *
        have b1 : (code == 0) = false := by simpa using hc0
        have b2 : (code != 0) = true := by simpa using hc0
        clear hT2 hK2 hc0 hno RS
        go_wp2
        go_ret2
        rw [← HP.out]
        refine ⟨rfl, HT2.out.setT ?_ HH.out.rd.bt, (HK.out.trans HK2.out).set' _ _⟩
        rw [HTL.out]
        exact HB5.out.kept HH.out.gm (HK.out.trans HK2.out)
    · obtain rfl : i = n := by omega
      rw [List.drop_eq_nil_of_le (by rw [HN.out]; exact Nat.le_refl _)] at hP
      have HP := hid hP
      clear hM hF hK hP
      go_wp2
      go_ret2
      rw [← HP.out]
      exact ⟨rfl, HM.out, HK.out⟩
end Go.Proofs.Qxb6500717aGreat
