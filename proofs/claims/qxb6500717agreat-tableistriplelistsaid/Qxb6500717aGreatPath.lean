/-
  ReservePath: the walk.
-/
import Derived.Test.Qxb6500717aGreatInv
namespace Go.Proofs.Qxb6500717aGreat
open Go.RowKit
set_option linter.unusedSimpArgs false
set_option linter.unusedVariables false

section
variable {T : TabS}
/-- A refusal changes nothing. -/
theorem TabS.reserve_no {r c t : Int} (h : (T.reserve r c t).1 ≠ 0) : (T.reserve r c t).2 = T := by
  unfold TabS.reserve at h ⊢
  split
  · rfl
  · rename_i h1
    rw [if_neg h1] at h
    split
    · rfl
    · rename_i h2
      rw [if_neg h2] at h
      split
      · rfl
      · rename_i h3
        rw [if_neg h3] at h
        split
        · rfl
        · rename_i h4
          rw [if_neg h4] at h
          split
          · rfl
          · rename_i h5
            rw [if_neg h5] at h
            exact absurd rfl h
/-- What it takes. -/
theorem TabS.reserve_yes {r c t : Int} (h : (T.reserve r c t).1 = 0) : ∃ rn cn tn : Nat, r = rn ∧ c = cn ∧ t = tn ∧ rn < T.nr ∧ cn < T.nc ∧ (T.base ≤ tn ∧ tn < T.base + 256) ∧ T.at rn tn = -1 ∧ T.hold cn tn = -1 ∧ T.joins rn cn tn = false ∧ T.held < T.cap ∧ (T.reserve r c t).2 = T.put rn cn tn := by
  unfold TabS.reserve at h ⊢
  by_cases h1 : T.place r c t ≠ 0
  · rw [if_pos h1] at h; exact absurd h h1
  · rw [if_neg h1] at h ⊢
    have hp0 : T.place r c t = 0 := by simpa using h1
    obtain ⟨⟨r0, r1⟩, ⟨q0, q1⟩, t0, t1⟩ := TabS.place_zero hp0
    obtain ⟨rn, rfl⟩ : ∃ rn : Nat, r = rn := ⟨r.toNat, by omega⟩
    obtain ⟨cn, rfl⟩ : ∃ cn : Nat, c = cn := ⟨c.toNat, by omega⟩
    obtain ⟨tn, rfl⟩ : ∃ tn : Nat, t = tn := ⟨t.toNat, by omega⟩
    simp only [Int.toNat_natCast] at h ⊢
    by_cases h2 : T.at rn tn ≠ -1
    · rw [if_pos h2] at h; simp at h
    · rw [if_neg h2] at h ⊢
      by_cases h3 : T.hold cn tn ≠ -1
      · rw [if_pos h3] at h; simp at h
      · rw [if_neg h3] at h ⊢
        by_cases h4 : T.joins rn cn tn = true
        · rw [if_pos h4] at h; simp at h
        · rw [if_neg h4] at h ⊢
          by_cases h5 : T.cap ≤ T.held
          · rw [if_pos h5] at h; simp at h
          · rw [if_neg h5]
            exact ⟨rn, cn, tn, rfl, rfl, rfl, by omega, by omega, by omega, by simpa using h2, by simpa using h3, by simpa using h4, by omega, rfl⟩
theorem TabS.win_of {t : Nat} (h : T.base ≤ t ∧ t < T.base + 256) : T.win t = true := by
  unfold TabS.win; simp; omega
theorem TabS.at_free {r t : Nat} (h : T.base ≤ t ∧ t < T.base + 256) (ha : T.at r t = -1) : T.pl r (t % 256) = -1 ∧ spAt (T.sp r) t = -1 := by
  unfold TabS.at at ha
  rw [Int.toNat_natCast] at ha
  by_cases hp : T.pl r (t % 256) = -1
  · rw [if_neg (fun h => h.2 hp)] at ha; exact ⟨hp, ha⟩
  · rw [if_pos ⟨TabS.win_of h, hp⟩] at ha; exact absurd ha hp
theorem TabS.hold_free (hb : TBd T) {c t : Nat} (hc : c < T.nc) (h : T.base ≤ t ∧ t < T.base + 256) (ha : T.hold c t = -1) : T.gr (t % 256 * T.nc + c) = 0 ∧ T.spBy c t 0 T.nr = -1 := by
  unfold TabS.hold at ha
  rw [Int.toNat_natCast] at ha
  by_cases hp : T.gr (t % 256 * T.nc + c) = 0
  · rw [if_neg (fun h => h.2 hp)] at ha; exact ⟨hp, ha⟩
  · rw [if_pos ⟨TabS.win_of h, hp⟩] at ha
    have hi : t % 256 * T.nc + c < 256 * T.nc := by
      have h1 := Nat.mul_le_mul_right T.nc (show t % 256 + 1 ≤ 256 by omega)
      rw [Nat.add_mul, Nat.one_mul] at h1
      omega
    have := hb.gr _ hi
    omega
theorem Con.reserve (h : Con T) (hb : TBd T) (r c t : Int) : Con (T.reserve r c t).2 := by
  by_cases h0 : (T.reserve r c t).1 = 0
  · obtain ⟨rn, cn, tn, -, -, -, hr, hc, hw, ha, hh, -, -, e⟩ := TabS.reserve_yes h0
    rw [e]
    exact h.put hr hc (TabS.at_free hw ha).1 (TabS.hold_free hb hc hw hh).1
  · rw [TabS.reserve_no h0]; exact h
/-- k drops. -/
def TabS.undo (T : TabS) (r start : Nat) : Nat → TabS
  | 0 => T
  | k + 1 => ((T.undo r start k).drop r ((start + k) % 256)).2
/-- What 'ReservePath' answers and leaves. -/
def TabS.path (r start : Int) : List Int → Nat → TabS → Int × Nat × TabS
  | [], i, T => (0, i, T)
  | c :: cs, i, T => if (T.reserve r c (start + i)).1 = 0 then TabS.path r start cs (i + 1) (T.reserve r c (start + i)).2 else ((T.reserve r c (start + i)).1, i, T.undo r.toNat start.toNat i)
end
theorem TabS.put_nr (T : TabS) (r c t : Nat) : (T.put r c t).nr = T.nr := rfl
theorem TabS.drop_nr (T : TabS) (r s : Nat) : (T.drop r s).2.nr = T.nr := by unfold TabS.drop; split <;> rfl
theorem TabS.drop_base (T : TabS) (r s : Nat) : (T.drop r s).2.base = T.base := by unfold TabS.drop; split <;> rfl

def pathPost (lab : Nat → Nat) (M : TabM) (T' : TabS) (code : Int) (n : Nat) (r : Int) (w : World) (e : Ending) (w' : World) : Prop :=
  e = .returned (.tuple #[.int .u8 code, .int .i64 (n)]) ∧ TAt w' lab M T' ∧ Con T' ∧ KeptL lab (fun x => x = 6 ∨ x = 7 ∨ x = 10 + r.toNat) w w'

set_option maxRecDepth 20000 in
set_option maxHeartbeats 4000000 in
theorem path_any (M : TabM) (T : TabS) (lab : Nat → Nat) (r start : Int) (ao : Option Addr) (n cap : Nat) (cs : List Int) (w : World) (h : TAt w lab M T) (hc : Con T) (hn : cs.length = n) (hn2 : n ≤ 100000) (hst : -9223372036854775808 ≤ start ∧ start ≤ 9223372036854775807)
    (hrow : ∀ (i : Nat) (c : Int), cs[i]? = some c → ∃ b o, ao = some ⟨b, o, none⟩ ∧ b < w.heap.size ∧ lab b = 0 ∧ w.cell? ⟨b, o + i, none⟩ = some (.int .i64 (c))) :
    Calls Tryz.prog 28 #[.pointer (some ⟨M.t, 0, none⟩), .int .i64 (r), .int .i64 (start), .slice ao n cap] w (pathPost lab M (TabS.path r start cs 0 T).2.2 (TabS.path r start cs 0 T).1 (TabS.path r start cs 0 T).2.1 r w) := by
  have HROW := hid hrow
  have HN := hid hn
  have HH := hid h
  have HC := hid hc
  obtain ⟨res, hres⟩ : ∃ res, TabS.path r start cs 0 T = res := ⟨_, rfl⟩
  rw [hres]
  have HRES := hid hres
  clear h hc hn hrow hres
  go_enter Tryz.func28, Tryz.ntmps28
  go_wp2
  go_loopw [16] (fun x wr => ∃ (i : Nat) (T1 : TabS), x = .int .i64 (i) ∧ i ≤ n ∧ TAt wr lab M T1 ∧ Con T1 ∧ TabS.path r start (cs.drop i) i T1 = res ∧ (1 ≤ i → (0 ≤ r ∧ r < T1.nr) ∧ 0 ≤ start ∧ start + i ≤ 1500000000) ∧ KeptL lab (fun x => x = 6 ∨ x = 7 ∨ x = 10 + r.toNat) w wr) (fun x _ => n - (intOf x).toNat)
  case atStart => exact ⟨0, T, rfl, Nat.zero_le _, HH.out, HC.out, HRES.out, by omega, KeptL.refl _ _ _⟩
  case round =>
    obtain ⟨i, T1, rfl, hi, hT, hC, hP, hwin, hK⟩ := hrel
    have HT := hid hT
    have HC1 := hid hC
    have HK := hid hK
    have HWIN := hid hwin
    by_cases hlt : i < n
    · have hil : i < cs.length := by rw [HN.out]; exact hlt
      have hci : cs[i]? = some cs[i] := List.getElem?_eq_getElem hil
      have hdr : cs.drop i = cs[i] :: cs.drop (i + 1) := List.drop_eq_getElem_cons hil
      generalize cs[i] = c at *
      obtain ⟨b, o, rfl, hbl, hlb, hcell⟩ := HROW.out i c hci
      have cc : wr.cell? ⟨b, o + i, none⟩ = some (.int .i64 (c)) := (World.cell?_of_block (hK.block b hbl (by rw [hlb]; omega))).trans hcell
      have hsz := hK.size
      rw [hdr] at hP
      simp only [TabS.path] at hP
      have RS := hid (reserve_any M T1 lab r c (start + i) wr hT)
      have hbnd : -9223372036854775808 ≤ start + i ∧ start + i ≤ 9223372036854775807 := by
        by_cases hi0 : i = 0
        · omega
        · have := (HWIN.out (by omega)).2; omega
      have bi : decide ((i : Int) < n) = true := by simp; omega
      cases hcode : decide ((T1.reserve r c (start + i)).1 = 0) with
      | true =>
        have hc0 := of_decide_eq_true hcode
        rw [if_pos hc0] at hP
        have HP := hid hP
        have hy := TabS.reserve_yes hc0
        have HY := hid hy
        have hrange : (0 ≤ r ∧ r < T1.nr) ∧ 0 ≤ start + i ∧ start + i ≤ 1400000000 := by
          obtain ⟨rn, cn, tn, rfl, -, e, h1, -, h2, -⟩ := hy
          have := HT.out.bd.base
          omega
        clear hT hC hK hP hcode hy hwin hdr hci hcell
        go_wp2_with (go_at_call 27; refine hold ?_)
        unfold Hid
        refine RS.out.mono ?_
        rintro e w2 ⟨rfl, hT2, hK2⟩
        rw [hc0]
        have HT2 := hid hT2
        have HK2 := hid hK2
        clear hT2 hK2 hc0
        go_wp2
        go_roundw
        case rel =>
          refine ⟨i + 1, _, by go_num, by omega, HT2.out, HC1.out.reserve HT.out.bd r c _, HP.out, fun _ => ?_, HK.out.trans HK2.out⟩
          obtain ⟨rn, cn, tn, hr, -, -, -, -, -, -, -, -, -, e⟩ := HY.out
          rw [e, TabS.put_nr]
          refine ⟨hrange.1, ?_, by omega⟩
          by_cases hi0 : i = 0
          · omega
          · exact (HWIN.out (by omega)).2.1
        case measure => simp [intOf]; omega
      | false =>
        have hc0 := of_decide_eq_false hcode
        rw [if_neg hc0] at hP
        have hno := TabS.reserve_no hc0
        have HP := hid hP
        have HNO := hid hno
        clear hT hC hK hP hcode hwin hdr hci hcell
        go_wp2_with (go_at_call 27; refine hold ?_)
        unfold Hid
        refine RS.out.mono ?_
        rintro e w2 ⟨rfl, hT2, hK2⟩
        rw [HNO.out] at hT2
        have HT2 := hid hT2
        have HK2 := hid hK2
        generalize (T1.reserve r c (start + i)).1 = code at *
        have b1 : (code == 0) = false := by simpa using hc0
        clear hT2 hK2 hc0 hno RS
        go_wp2
        go_loopw [13] (fun y w3 => ∃ j : Nat, y = .int .i64 (j) ∧ j ≤ i ∧ TAt w3 lab M (T1.undo r.toNat start.toNat j) ∧ Con (T1.undo r.toNat start.toNat j) ∧ (T1.undo r.toNat start.toNat j).nr = T1.nr ∧ KeptL lab (fun x => x = 6 ∨ x = 7 ∨ x = 10 + r.toNat) w2 w3) (fun y _ => i - (intOf y).toNat)
        case atStart => exact ⟨0, rfl, Nat.zero_le _, HT2.out, HC1.out, rfl, KeptL.refl _ _ _⟩
        case round =>
          obtain ⟨j, rfl, hj, hT3, hC3, hnr3, hK3⟩ := hrel
          have HT3 := hid hT3
          have HC3 := hid hC3
          have HK3 := hid hK3
          have HNR := hid hnr3
          by_cases hlj : j < i
          · obtain ⟨⟨r0, r1⟩, s0, s1⟩ := HWIN.out (by omega)
            obtain ⟨rn, rfl⟩ : ∃ rn : Nat, r = rn := ⟨r.toNat, by omega⟩
            obtain ⟨sn, rfl⟩ : ∃ sn : Nat, start = sn := ⟨start.toNat, by omega⟩
            rw [Int.toNat_natCast, Int.toNat_natCast] at *
            have hmod : (sn + j) % 256 < 256 := Nat.mod_lt _ (by omega)
            have DR := hid (drop_any M _ lab rn (sn + j) _ wr hT3 (by rw [hnr3]; omega) (by omega) rfl (fun hp => hC3.pos (by rw [hnr3]; omega) hmod hp))
            have hstep : (T1.undo rn sn (j + 1)) = ((T1.undo rn sn j).drop rn ((sn + j) % 256)).2 := rfl
            have HST := hid hstep
            have bj : decide ((j : Int) < i) = true := by simp; omega
            rw [show (((sn + j : Nat) : Int)) = (sn : Int) + (j : Int) by omega] at DR
            clear hT3 hC3 hK3 hnr3 hstep
            go_wp2_with (go_at_call 67; refine hold ?_)
            unfold Hid
            refine DR.out.mono ?_
            rintro e w4 ⟨rfl, hT4, hK4⟩
            have HT4 := hid hT4
            have HK4 := hid hK4
            clear hT4 hK4 DR
            go_wp2
            go_roundw
            case rel =>
              refine ⟨j + 1, by go_num, by omega, ?_, ?_, ?_, ?_⟩
              · rw [HST.out]; exact HT4.out
              · rw [HST.out]; exact HC3.out.drop (by rw [HNR.out]; omega) hmod HT3.out.bd
              · rw [HST.out, TabS.drop_nr]; exact HNR.out
              · exact HK3.out.trans HK4.out
            case measure => simp [intOf]; omega
          · obtain rfl : j = i := by omega
            clear hT3 hC3 hK3
            go_wp2
            go_ret2
            rw [← HP.out]
            exact ⟨rfl, HT3.out, HC3.out, HK.out.trans (HK2.out.trans HK3.out)⟩
    · obtain rfl : i = n := by omega
      rw [List.drop_eq_nil_of_le (by rw [HN.out]; exact Nat.le_refl _)] at hP
      have HP := hid hP
      clear hT hC hK hP
      go_wp2
      go_ret2
      rw [← HP.out]
      exact ⟨rfl, HT.out, HC1.out, HK.out⟩
end Go.Proofs.Qxb6500717aGreat
