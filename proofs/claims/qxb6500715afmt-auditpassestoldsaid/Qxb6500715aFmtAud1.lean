/-
  auditDistances: the walk.
-/
import Derived.Test.Qxb6500715aFmtTab2
import Derived.Test.Qxb6500715aFmtGr
namespace Go.Proofs.Qxb6500715aFmt
open Go.RowKit
set_option linter.unusedSimpArgs false
set_option linter.unusedVariables false
theorem ext_below' {w w' : World} (h : ∃ z, w' = w.ext z) : Below w.heap.size w w' := by
  obtain ⟨z, rfl⟩ := h
  exact World.below_ext _ _
theorem valid_no (F : FP) (c : Nat) (w : World) (h : FlN w F) (hc : F.N ≤ c) (hc2 : c ≤ 100000) : Calls Tryf.prog 20 #[.pointer (some ⟨F.fb, 0, none⟩), .int .i64 (c)] w fun e w' => e = .returned (.bool false) ∧ w' = w := by
  have i11 := h.num.i11
  have hfb := h.hdr.hfb
  have b0 : decide ((0 : Int) ≤ (c : Int)) = true := by simp
  have b1 : decide ((c : Int) < (F.N : Int)) = false := by simp; omega
  clear h
  go_enter Tryf.func20, Tryf.ntmps20
  go_wp2
  all_goals (go_ret; exact ⟨by simp [*], rfl⟩)
theorem valid_is (F : FP) (c : Nat) (w : World) (h : FlN w F) (hc2 : c ≤ 100000) : Calls Tryf.prog 20 #[.pointer (some ⟨F.fb, 0, none⟩), .int .i64 (c)] w fun e w' => e = .returned (.bool (decide (c < F.N))) ∧ w' = w := by
  by_cases hc : c < F.N
  · simpa [hc] using valid_yes F c w h hc
  · simpa [hc] using valid_no F c w h (by omega) hc2
theorem dist_is (F : FP) (a b dd : Nat) (w : World) (h : FlN w F) (ha : a < F.N) (hb : b < F.N) (hd : F.dst a b = dd) :
    Calls Tryf.prog 40 #[.pointer (some ⟨F.fb, 0, none⟩), .int .i64 (a), .int .i64 (b)] w fun e w' => e = .returned (.int .i64 (dd)) ∧ ∃ z, w' = w.ext z := hd ▸ dist_any F a b w h ha hb
set_option maxRecDepth 20000 in
set_option maxHeartbeats 4000000 in
theorem audDist (F : FP) (sb cb tb db NN : Nat) (dist : Nat → Nat → Int) (dia : Int) (D : Array Value) (w : World) (h : Flo w F sb cb tb db NN dist dia D) :
    Calls Tryf.prog 15 #[.pointer (some ⟨F.fb, 0, none⟩)] w fun e w' => e = .returned .nilIface ∧ ∃ z, w' = w.ext z := by
  have H := hid h
  have hN := h.hN
  clear h
  go_enter Tryf.func15, Tryf.ntmps15
  go_wp2
  go_loopw [3] (fun v wr => ∃ a : Nat, v = .int .i64 (a) ∧ a ≤ F.N ∧ (∃ z, wr = w.ext z)) (fun v _ => F.N - (intOf v).toNat)
  case atStart => exact ⟨0, rfl, Nat.zero_le _, (Below.rf _).is_ext⟩
  case round =>
    obtain ⟨a, rfl, ha, hE⟩ := hrel
    have HB := hid (ext_below' hE)
    have HF := hid (H.out.below HB.out)
    clear hE
    by_cases e : a < F.N
    · have V := hid (valid_yes F a wr HF.out.fl e)
      go_wp2_with (go_at_call 20; refine V.out.mono ?_; rintro e w' ⟨rfl, hw'⟩; obtain rfl := hw'.symm)
      clear V
      go_loopw [4] (fun v w2 => ∃ b : Nat, v = .int .i64 (b) ∧ b ≤ F.N ∧ Below w.heap.size w w2) (fun v _ => F.N - (intOf v).toNat)
      case atStart => exact ⟨0, rfl, Nat.zero_le _, HB.out⟩
      case round =>
        obtain ⟨b, rfl, hb, hB⟩ := hrel
        clear HF HB
        have HB := hid hB
        have HF := hid (H.out.below hB)
        clear hB
        by_cases e2 : b < F.N
        · have V := hid (valid_yes F b wr HF.out.fl e2)
          obtain ⟨dd, hdd⟩ : ∃ dd, F.dst a b = dd := ⟨_, rfl⟩
          have HD := hid (fun w' (h : FlN w' F) => dist_is F a b dd w' h e e2 hdd)
          have HT := hid (fun w' (h : Flo w' F sb cb tb db NN dist dia D) => tableDist_any F sb cb tb db NN dist dia D a b dd w' h e e2 hdd)
          have hle := (HF.out.dst e e2).2
          rw [hdd] at hle
          have hdia := HF.out.tab.d0
          have hfb := HF.out.lk.hfb
          have htb := HF.out.lt.1
          have k19 := HF.out.k19
          have t2 := HF.out.t2
          clear hdd
          go_wp2_with (first | (go_at_call 20; refine V.out.mono ?_; rintro e w' ⟨rfl, hw'⟩; obtain rfl := hw'.symm) | (go_at_call 40; refine (HD.out _ HF.out.fl).mono ?_; rintro e w' ⟨rfl, z1, rfl⟩) | (go_at_call 41; refine (HT.out _ (HF.out.ex z1)).mono ?_; rintro e w' ⟨rfl, z2, rfl⟩))
          go_roundw
          case rel => exact ⟨b + 1, by go_num, by omega, HB.out.ex _⟩
          case measure => simp [intOf]; omega
        · have V := hid (valid_no F b wr HF.out.fl (by omega) (by omega))
          go_wp2_with (go_at_call 20; refine V.out.mono ?_; rintro e w' ⟨rfl, hw'⟩; obtain rfl := hw'.symm)
          go_roundw
          case rel => exact ⟨a + 1, by go_num, by omega, HB.out.is_ext⟩
          case measure => simp [intOf]; omega
    · have V := hid (valid_no F a wr HF.out.fl (by omega) (by omega))
      go_wp2_with (go_at_call 20; refine V.out.mono ?_; rintro e w' ⟨rfl, hw'⟩; obtain rfl := hw'.symm)
      go_ret
      exact ⟨rfl, HB.out.is_ext⟩
end Go.Proofs.Qxb6500715aFmt
