/-
  EdgeBetween and auditEdges: the walks.
-/
import Derived.Test.Qxb6500715aFmtAud2
import Derived.Test.Qxb6500715aFmtEdq
import Derived.Test.Qxb6500715aFmtKind
namespace Go.Proofs.Qxb6500715aFmt
open Go.RowKit
set_option linter.unusedSimpArgs false
set_option linter.unusedVariables false
set_option maxHeartbeats 1000000 in
theorem edgeBetween_any (F : FP) (sb cb eb xb cp a b : Nat) (ao : Option Addr) (w : World) (h : FlN w F) (hl : Lnk w F sb cb) (hE : Edg w F eb ao xb cp) (hN : F.N ≤ 384) (ha : a < F.N) (hab : b ∈ F.adj a) (k : Nat) (hk : edn (F.ends F.N) a b = k) :
    Calls Tryf.prog 26 #[.pointer (some ⟨F.fb, 0, none⟩), .int .i64 (a), .int .i64 (b)] w fun e w' => e = .returned (.tuple #[.int .i64 (k), .bool true]) ∧ w' = w := by
  have hb := adj_lt h.plain ha hab
  have VA := hid (valid_yes F a w h ha)
  have VB := hid (valid_yes F b w h hb)
  obtain ⟨t, ht, hen⟩ := ent_get F hab
  have HEN := hid (hen ▸ entry_any F sb cb a b w hl hN ha)
  have ev := hE.ev a t b ha ht
  rw [hk] at ev
  have k17 := hE.k17
  have hfb := hE.lf
  have heb := hE.le
  have hlt : F.st a + t < F.st F.N + 0 := st_ne F (j := 0) (Or.inl ha) ht
  rw [Nat.add_zero] at hlt
  have h3 : F.st F.N ≤ 4 * F.N := F.flat_len F.N
  obtain ⟨ix, hix⟩ : ∃ ix, F.st a + t = ix := ⟨_, rfl⟩
  rw [hix] at HEN ev hlt
  obtain ⟨sn, hsn⟩ : ∃ ix, F.st F.N = ix := ⟨_, rfl⟩
  rw [hsn] at k17 hlt h3
  clear h hl hE hen hix hk hsn ht hab
  go_enter Tryf.func26, Tryf.ntmps26
  go_wp2_with (first | (go_at_call 20; first | (with_reducible refine VA.out.mono ?_; rintro e w' ⟨rfl, hw'⟩; obtain rfl := hw'.symm) | (with_reducible refine VB.out.mono ?_; rintro e w' ⟨rfl, hw'⟩; obtain rfl := hw'.symm)) | (go_at_call 25; refine HEN.out.mono ?_; rintro e w' ⟨rfl, hw'⟩; obtain rfl := hw'.symm))
  go_ret2
  exact ⟨rfl, rfl⟩
set_option maxRecDepth 20000 in
set_option maxHeartbeats 4000000 in
theorem audEdges (F : FP) (sb cb eb xb cp : Nat) (ao : Option Addr) (w : World) (h : FlN w F) (hl : Lnk w F sb cb) (hN : F.N ≤ 384) (hE : Edg w F eb ao xb cp) :
    Calls Tryf.prog 11 #[.pointer (some ⟨F.fb, 0, none⟩)] w fun e w' => e = .returned .nilIface ∧ ∃ z, w' = w.ext z := by
  have H := hid h
  have HL := hid hl
  have HE := hid hE
  have hlen := ends_len h.plain (by have := h.hWb; omega)
  have k16 := hl.k16
  have k18 := hE.k18
  have hfb := hE.lf
  have h3 : F.st F.N ≤ 4 * F.N := F.flat_len F.N
  obtain ⟨m, hm⟩ : ∃ m, (F.ends F.N).length = m := ⟨_, rfl⟩
  have HM := hid hm
  rw [hm] at hlen k18
  rw [hlen] at k16 h3
  have HW := hid h.hWb
  have b0 : ((((2 * m : Nat) : Int)) != 2 * (m : Int)) = false := by simp
  have wm : IntKind.i64.wrap (2 * (m : Int)) = 2 * (m : Int) := by simp [IntKind.wrap, IntKind.bits, IntKind.signed]; omega
  clear h hl hE hm hlen
  go_enter Tryf.func11, Tryf.ntmps11
  go_wp2
  first | with_reducible refine wp_region_ext2 (by kernel_rfl) (by kernel_rfl) ?_ | refine wp_region_ext (by kernel_rfl) (by kernel_rfl) ?_
  repeat (go_big_quiet_step (fail))
  refine wpQuiet_nil ?_
  rintro _ ⟨z, rfl⟩
  go_wp2
  go_loopw [43] (fun v wr => ∃ i : Nat, v = .int .i64 (i) ∧ i ≤ m ∧ Below w.heap.size w wr) (fun v _ => m - (intOf v).toNat)
  case atStart => exact ⟨0, rfl, Nat.zero_le _, (Below.rf _).ex _⟩
  case round =>
    clear k16 k18 hfb b0 wm
    obtain ⟨i, rfl, hi, hB⟩ := hrel
    have HB := hid hB
    have HF := hid (H.out.below hB)
    have HLr := hid (HL.out.below hB)
    have HEr := hid (HE.out.below hB)
    have k18 := HEr.out.k18
    have hfb := HEr.out.lf
    have hxl := HEr.out.lx
    rw [HM.out] at k18
    clear hB
    by_cases e : i < m
    · obtain ⟨⟨a, b⟩, hab⟩ : ∃ p, (F.ends F.N)[i]? = some p := ⟨_, List.getElem?_eq_getElem (by rw [HM.out]; exact e)⟩
      have hm' := (mem_ends F).1 (List.mem_of_getElem? hab)
      have ha : a < F.N := hm'.1
      have hba : b ∈ F.adj a := hm'.2.1
      have hlt : a < b := hm'.2.2
      have hb : b < F.N := adj_lt H.out.plain ha hba
      have hsy := adj_symm H.out.plain ha hba
      have x0 := HEr.out.x0 i (a, b) hab
      have x1 := HEr.out.x1 i (a, b) hab
      have hed := edn_at (F := F) (by have := HW.out; omega) hab
      have E1 := hid (fun w' hf hl he => edgeBetween_any F sb cb eb xb cp a b ao w' hf hl he hN ha hba i hed)
      have E2 := hid (fun w' hf hl he => edgeBetween_any F sb cb eb xb cp b a ao w' hf hl he hN hb hsy i (by rw [edn_comm]; exact hed))
      obtain rfl := HEr.out.xo (by rw [HM.out]; omega)
      have HAB := hid hab
      have di : decide ((i : Int) < (m : Int)) = true := by simp; omega
      have dl : decide ((b : Int) ≤ (a : Int)) = false := by simp; omega
      have bi : ((i : Int) != (i : Int)) = false := by simp
      simp only [Nat.mul_comm 2 i] at x0 x1
      clear hm' hab hed hba hsy
      by_cases e0 : i = 0
      · have d0 : i ≤ 0 := by omega
        clear e0
        go_wp2
        first | with_reducible refine wp_region_ext2 (by kernel_rfl) (by kernel_rfl) ?_ | refine wp_region_ext (by kernel_rfl) (by kernel_rfl) ?_
        repeat (go_big_quiet_step (fail))
        refine wpQuiet_nil ?_
        rintro _ ⟨z, rfl⟩
        go_wp2_with (go_at_call 26; first | (with_reducible refine (E1.out _ (HF.out.below (by (repeat (first | with_reducible exact Below.rf _ | with_reducible exact World.below_ext _ _ | with_reducible refine Below.ex ?_ _ | with_reducible refine Below.al ?_ _ | with_reducible refine Below.setCell ?_ (by simp) _ | with_reducible refine Below.drew ?_)))) (HLr.out.below (by (repeat (first | with_reducible exact Below.rf _ | with_reducible exact World.below_ext _ _ | with_reducible refine Below.ex ?_ _ | with_reducible refine Below.al ?_ _ | with_reducible refine Below.setCell ?_ (by simp) _ | with_reducible refine Below.drew ?_)))) (HEr.out.below (by (repeat (first | with_reducible exact Below.rf _ | with_reducible exact World.below_ext _ _ | with_reducible refine Below.ex ?_ _ | with_reducible refine Below.al ?_ _ | with_reducible refine Below.setCell ?_ (by simp) _ | with_reducible refine Below.drew ?_))))).mono ?_; rintro e w' ⟨rfl, hw'⟩; obtain rfl := hw'.symm) | (with_reducible refine (E2.out _ (HF.out.below (by (repeat (first | with_reducible exact Below.rf _ | with_reducible exact World.below_ext _ _ | with_reducible refine Below.ex ?_ _ | with_reducible refine Below.al ?_ _ | with_reducible refine Below.setCell ?_ (by simp) _ | with_reducible refine Below.drew ?_)))) (HLr.out.below (by (repeat (first | with_reducible exact Below.rf _ | with_reducible exact World.below_ext _ _ | with_reducible refine Below.ex ?_ _ | with_reducible refine Below.al ?_ _ | with_reducible refine Below.setCell ?_ (by simp) _ | with_reducible refine Below.drew ?_)))) (HEr.out.below (by (repeat (first | with_reducible exact Below.rf _ | with_reducible exact World.below_ext _ _ | with_reducible refine Below.ex ?_ _ | with_reducible refine Below.al ?_ _ | with_reducible refine Below.setCell ?_ (by simp) _ | with_reducible refine Below.drew ?_))))).mono ?_; rintro e w' ⟨rfl, hw'⟩; obtain rfl := hw'.symm))
        go_roundw
        case rel =>
          refine ⟨i + 1, by go_num, by omega, HB.out.trans (Below.mono ?_ HB.out.size)⟩
          (repeat (first | with_reducible exact Below.rf _ | with_reducible exact World.below_ext _ _ | with_reducible refine Below.ex ?_ _ | with_reducible refine Below.al ?_ _ | with_reducible refine Below.setCell ?_ (by simp) _ | with_reducible refine Below.drew ?_))
        case measure => simp [intOf]; omega
      · obtain ⟨k, rfl⟩ : ∃ k, i = k + 1 := ⟨i - 1, by omega⟩
        obtain ⟨⟨a', b'⟩, hab'⟩ : ∃ p, (F.ends F.N)[k]? = some p := ⟨_, List.getElem?_eq_getElem (by rw [HM.out]; omega)⟩
        have y0 := HEr.out.x0 k (a', b') hab'
        have y1 := HEr.out.x1 k (a', b') hab'
        simp only [Nat.mul_comm 2 k] at y0 y1
        have hor := ends_next (F := F) (by have := HW.out; omega) hab' HAB.out
        have d0 : decide ((0 : Int) < ((k + 1 : Nat) : Int)) = true := by simp
        clear e0 hab'
        rcases hor with hor | ⟨rfl, hor⟩
        · have d1 : decide ((a : Int) < (a' : Int)) = false := by simp; omega
          have d2 : ((a' : Int) == (a : Int)) = false := by simp; omega
          go_wp2
          first | with_reducible refine wp_region_ext2 (by kernel_rfl) (by kernel_rfl) ?_ | refine wp_region_ext (by kernel_rfl) (by kernel_rfl) ?_
          repeat (go_big_quiet_step (fail))
          refine wpQuiet_nil ?_
          rintro _ ⟨z, rfl⟩
          go_wp2_with (go_at_call 26; first | (with_reducible refine (E1.out _ (HF.out.below (by (repeat (first | with_reducible exact Below.rf _ | with_reducible exact World.below_ext _ _ | with_reducible refine Below.ex ?_ _ | with_reducible refine Below.al ?_ _ | with_reducible refine Below.setCell ?_ (by simp) _ | with_reducible refine Below.drew ?_)))) (HLr.out.below (by (repeat (first | with_reducible exact Below.rf _ | with_reducible exact World.below_ext _ _ | with_reducible refine Below.ex ?_ _ | with_reducible refine Below.al ?_ _ | with_reducible refine Below.setCell ?_ (by simp) _ | with_reducible refine Below.drew ?_)))) (HEr.out.below (by (repeat (first | with_reducible exact Below.rf _ | with_reducible exact World.below_ext _ _ | with_reducible refine Below.ex ?_ _ | with_reducible refine Below.al ?_ _ | with_reducible refine Below.setCell ?_ (by simp) _ | with_reducible refine Below.drew ?_))))).mono ?_; rintro e w' ⟨rfl, hw'⟩; obtain rfl := hw'.symm) | (with_reducible refine (E2.out _ (HF.out.below (by (repeat (first | with_reducible exact Below.rf _ | with_reducible exact World.below_ext _ _ | with_reducible refine Below.ex ?_ _ | with_reducible refine Below.al ?_ _ | with_reducible refine Below.setCell ?_ (by simp) _ | with_reducible refine Below.drew ?_)))) (HLr.out.below (by (repeat (first | with_reducible exact Below.rf _ | with_reducible exact World.below_ext _ _ | with_reducible refine Below.ex ?_ _ | with_reducible refine Below.al ?_ _ | with_reducible refine Below.setCell ?_ (by simp) _ | with_reducible refine Below.drew ?_)))) (HEr.out.below (by (repeat (first | with_reducible exact Below.rf _ | with_reducible exact World.below_ext _ _ | with_reducible refine Below.ex ?_ _ | with_reducible refine Below.al ?_ _ | with_reducible refine Below.setCell ?_ (by simp) _ | with_reducible refine Below.drew ?_))))).mono ?_; rintro e w' ⟨rfl, hw'⟩; obtain rfl := hw'.symm))
          go_roundw
          case rel =>
            refine ⟨k + 1 + 1, by go_num, by omega, HB.out.trans (Below.mono ?_ HB.out.size)⟩
            (repeat (first | with_reducible exact Below.rf _ | with_reducible exact World.below_ext _ _ | with_reducible refine Below.ex ?_ _ | with_reducible refine Below.al ?_ _ | with_reducible refine Below.setCell ?_ (by simp) _ | with_reducible refine Below.drew ?_))
          case measure => simp [intOf]; omega
        · have d1 : decide ((a' : Int) < (a' : Int)) = false := by simp
          have d2 : ((a' : Int) == (a' : Int)) = true := by simp
          have d3 : decide ((b : Int) ≤ (b' : Int)) = false := by simp; omega
          go_wp2
          first | with_reducible refine wp_region_ext2 (by kernel_rfl) (by kernel_rfl) ?_ | refine wp_region_ext (by kernel_rfl) (by kernel_rfl) ?_
          repeat (go_big_quiet_step (fail))
          refine wpQuiet_nil ?_
          rintro _ ⟨z, rfl⟩
          go_wp2_with (go_at_call 26; first | (with_reducible refine (E1.out _ (HF.out.below (by (repeat (first | with_reducible exact Below.rf _ | with_reducible exact World.below_ext _ _ | with_reducible refine Below.ex ?_ _ | with_reducible refine Below.al ?_ _ | with_reducible refine Below.setCell ?_ (by simp) _ | with_reducible refine Below.drew ?_)))) (HLr.out.below (by (repeat (first | with_reducible exact Below.rf _ | with_reducible exact World.below_ext _ _ | with_reducible refine Below.ex ?_ _ | with_reducible refine Below.al ?_ _ | with_reducible refine Below.setCell ?_ (by simp) _ | with_reducible refine Below.drew ?_)))) (HEr.out.below (by (repeat (first | with_reducible exact Below.rf _ | with_reducible exact World.below_ext _ _ | with_reducible refine Below.ex ?_ _ | with_reducible refine Below.al ?_ _ | with_reducible refine Below.setCell ?_ (by simp) _ | with_reducible refine Below.drew ?_))))).mono ?_; rintro e w' ⟨rfl, hw'⟩; obtain rfl := hw'.symm) | (with_reducible refine (E2.out _ (HF.out.below (by (repeat (first | with_reducible exact Below.rf _ | with_reducible exact World.below_ext _ _ | with_reducible refine Below.ex ?_ _ | with_reducible refine Below.al ?_ _ | with_reducible refine Below.setCell ?_ (by simp) _ | with_reducible refine Below.drew ?_)))) (HLr.out.below (by (repeat (first | with_reducible exact Below.rf _ | with_reducible exact World.below_ext _ _ | with_reducible refine Below.ex ?_ _ | with_reducible refine Below.al ?_ _ | with_reducible refine Below.setCell ?_ (by simp) _ | with_reducible refine Below.drew ?_)))) (HEr.out.below (by (repeat (first | with_reducible exact Below.rf _ | with_reducible exact World.below_ext _ _ | with_reducible refine Below.ex ?_ _ | with_reducible refine Below.al ?_ _ | with_reducible refine Below.setCell ?_ (by simp) _ | with_reducible refine Below.drew ?_))))).mono ?_; rintro e w' ⟨rfl, hw'⟩; obtain rfl := hw'.symm))
          go_roundw
          case rel =>
            refine ⟨k + 1 + 1, by go_num, by omega, HB.out.trans (Below.mono ?_ HB.out.size)⟩
            (repeat (first | with_reducible exact Below.rf _ | with_reducible exact World.below_ext _ _ | with_reducible refine Below.ex ?_ _ | with_reducible refine Below.al ?_ _ | with_reducible refine Below.setCell ?_ (by simp) _ | with_reducible refine Below.drew ?_))
          case measure => simp [intOf]; omega
    · have di : decide ((i : Int) < (m : Int)) = false := by simp; omega
      go_wp2
      go_ret
      exact ⟨rfl, HB.out.is_ext⟩
end Go.Proofs.Qxb6500715aFmt
