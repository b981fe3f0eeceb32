/-
  auditAdjacency: the walk.
-/
import Derived.Test.Qxb6500715aFmtAud2
import Derived.Test.Qxb6500715aFmtCross
import Derived.Test.Qxb6500715aFmtEdp
namespace Go.Proofs.Qxb6500715aFmt
open Go.RowKit
set_option linter.unusedSimpArgs false
set_option linter.unusedVariables false
/-- The neighbour before. -/
def prv (l : List Nat) : Nat → Int
  | 0 => -1
  | k + 1 => (l[k]?.getD 0 : Nat)
theorem prv_lt {F : FP} (hW : 3 ≤ F.W) {c j : Nat} (hj : j < (F.adj c).length) : prv (F.adj c) j < ((F.adj c)[j] : Int) := by
  cases j with
  | zero => simp only [prv]; omega
  | succ k =>
    have := List.pairwise_iff_getElem.1 (adj_asc F hW c) k (k + 1) (by omega) hj (by omega)
    simp only [prv, List.getElem?_eq_getElem (show k < (F.adj c).length by omega), Option.getD_some]
    omega
theorem prv_next {l : List Nat} {j : Nat} (hj : j < l.length) : prv l (j + 1) = (l[j] : Nat) := by
  simp only [prv, List.getElem?_eq_getElem hj, Option.getD_some]
theorem abs_ext (p q x : Nat) (w : World) (hp : p ≤ 100000) (hq : q ≤ 100000) (hx : nab p q = x) : Calls Tryf.prog 24 #[.int .i64 ((p : Int) - q)] w fun e w' => e = .returned (.int .i64 (x)) ∧ ∃ z, w' = w.ext z :=
  (abs_nab p q w hp hq).mono (fun e w' ⟨h1, h2⟩ => ⟨by rw [h1, hx], by rw [h2]; exact (Below.rf w).is_ext⟩)
theorem nab_one {r q r' q' : Nat} (h : one r q r' q') : nab r r' + nab q q' = 1 := by unfold one at h; unfold nab; omega
set_option maxRecDepth 20000 in
set_option maxHeartbeats 4000000 in
theorem audAdj (F : FP) (sb cb : Nat) (w : World) (h : FlN w F) (hl : Lnk w F sb cb) (hN : F.N ≤ 384) :
    Calls Tryf.prog 10 #[.pointer (some ⟨F.fb, 0, none⟩)] w fun e w' => e = .returned .nilIface ∧ ∃ z, w' = w.ext z := by
  have H := hid h
  have HL := hid hl
  have hp := hid h.pln
  have hWb := h.hWb
  have hS := h.lay.hS
  clear h hl
  go_enter Tryf.func10, Tryf.ntmps10
  go_wp2
  go_loopw [3] (fun v wr => ∃ c : Nat, v = .int .i64 (c) ∧ c ≤ F.N ∧ Below w.heap.size w wr) (fun v _ => F.N - (intOf v).toNat)
  case atStart => exact ⟨0, rfl, Nat.zero_le _, Below.rf _⟩
  case round =>
    obtain ⟨c, rfl, hc, hB⟩ := hrel
    have HB := hid hB
    have HF := hid (H.out.below hB)
    have HLr := hid (HL.out.below hB)
    clear hB
    by_cases e : c < F.N
    · have V := hid (valid_yes F c wr HF.out e)
      obtain ⟨la, hla⟩ : ∃ la, (F.adj c).length = la := ⟨_, rfl⟩
      obtain ⟨no, hno⟩ : ∃ no, F.no c = no := ⟨_, rfl⟩
      have C := hid (neighbors_is F sb cb c la no wr HF.out HLr.out hN e hla hno)
      have hla4 : la ≤ 100000 := by
        have h1 := F.flat_len F.N
        have h2 : F.st c + (F.adj c).length ≤ F.st F.N := by rw [← F.st_succ]; exact F.st_mono (by omega)
        have h3 : F.st F.N ≤ 4 * F.N := F.flat_len F.N
        omega
      have HLA := hid hla
      have HNO := hid hno
      clear hla hno
      go_wp2_with (first | (go_at_call 20; refine V.out.mono ?_; rintro e w' ⟨rfl, hw'⟩; obtain rfl := hw'.symm) | (go_at_call 23; refine C.out.mono ?_; rintro e w' ⟨rfl, z0, rfl⟩))
      clear V C
      go_loopw [4, 18] (fun x v w2 => ∃ j : Nat, v = .int .i64 (j) ∧ x = .int .i64 (prv (F.adj c) j) ∧ j ≤ la ∧ Below w.heap.size w w2) (fun _ v _ => la - (intOf v).toNat)
      case atStart => exact ⟨0, rfl, rfl, Nat.zero_le _, HB.out.ex _⟩
      case round =>
        obtain ⟨j, rfl, rfl, hj, hB⟩ := hrel
        clear HF HB HLr
        have HB := hid hB
        have HF := hid (H.out.below hB)
        have HLr := hid (HL.out.below hB)
        have hfb := HF.out.hdr.hfb
        have hcl := HLr.out.lt.2
        clear hB
        by_cases e2 : j < la
        · have dj : decide ((j : Int) < (la : Int)) = true := by simp; omega
          have hj2 : j < (F.adj c).length := by rw [HLA.out]; exact e2
          have cv := HLr.out.nb e hj2
          rw [HNO.out] at cv
          have hmem : (F.adj c)[j] ∈ F.adj c := List.getElem_mem hj2
          obtain ⟨g1, g2, -⟩ := adj_co hp.out e hmem
          have hlt := prv_lt (F := F) (by omega) hj2
          have hnx := prv_next hj2
          have hsy := adj_symm H.out.plain e hmem
          have hno2 := nab_one g2
          have ra := (cell_on hp.out e).1
          have rb := (cell_on hp.out g1).1
          have ca := (cell_on hp.out e).2.1
          have cb' := (cell_on hp.out g1).2.1
          have p0 := HF.out.num.pos0 c e
          have p1 := HF.out.num.pos1 c e
          have p2 := HF.out.num.pos0 _ g1
          have p3 := HF.out.num.pos1 _ g1
          have i11 := HF.out.num.i11
          have hqc := HF.out.num.qc
          have hql := HF.out.num.lt.2.1
          have V := hid (valid_yes F _ wr HF.out g1)
          have HEN := hid (fun w' h' => entry_any F sb cb (F.adj c)[j] c w' h' hN g1)
          have hen : 0 ≤ F.ent (F.adj c)[j] c := (fnd_mem c (F.adj (F.adj c)[j]) (F.st (F.adj c)[j])).2 hsy
          rw [Nat.zero_add] at p0 p1 p2 p3
          rw [show ∀ x, plc (fun t => drv (F.kd t)) F.L x / F.W = F.row x from fun _ => rfl] at p0 p2
          rw [show ∀ x, plc (fun t => drv (F.kd t)) F.L x % F.W = F.col x from fun _ => rfl] at p1 p3
          obtain ⟨en, hene⟩ : ∃ en, F.ent (F.adj c)[j] c = en := ⟨_, rfl⟩
          rw [hene] at hen HEN
          obtain ⟨px, hpx⟩ : ∃ px, prv (F.adj c) j = px := ⟨_, rfl⟩
          rw [hpx] at hlt
          rw [hpx]
          have HNX := hid hnx
          clear hmem hsy g2 hene hnx hpx
          generalize (F.adj c)[j] = nb at *
          obtain ⟨r1, e1⟩ : ∃ r, F.row c = r := ⟨_, rfl⟩
          obtain ⟨q1, e2'⟩ : ∃ r, F.col c = r := ⟨_, rfl⟩
          obtain ⟨r2, e3⟩ : ∃ r, F.row nb = r := ⟨_, rfl⟩
          obtain ⟨q2, e4⟩ : ∃ r, F.col nb = r := ⟨_, rfl⟩
          rw [e1] at p0 ra hno2
          rw [e2'] at p1 ca hno2
          rw [e3] at p2 rb hno2
          rw [e4] at p3 cb' hno2
          obtain ⟨n1, hn1⟩ : ∃ n, nab r1 r2 = n := ⟨_, rfl⟩
          obtain ⟨n2, hn2⟩ : ∃ n, nab q1 q2 = n := ⟨_, rfl⟩
          rw [hn1, hn2] at hno2
          have A1 := hid (fun w' => abs_ext r1 r2 n1 w' (by omega) (by omega) hn1)
          have A2 := hid (fun w' => abs_ext q1 q2 n2 w' (by omega) (by omega) hn2)
          have bn : (((n1 : Int) + (n2 : Int)) != 1) = false := by simp; omega
          have dn : decide ((nb : Int) ≤ px) = false := by simp; omega
          have de : decide (en < 0) = false := by simp; omega
          have bl : n1 ≤ 1 ∧ n2 ≤ 1 := by omega
          clear e1 e2' e3 e4 hn1 hn2 hno2
          go_wp2_with (go_at_call 20; refine V.out.mono ?_; rintro e w' ⟨rfl, hw'⟩; obtain rfl := hw'.symm)
          go_region_held3 (fun w' => w'.cell? ⟨F.fb, 11, none⟩ = some (.slice (some ⟨F.qb, 0, none⟩) F.N F.qc) ∧ w'.cell? ⟨F.qb, c * 2, none⟩ = some (.int .i64 (r1)) ∧ w'.cell? ⟨F.qb, c * 2 + 1, none⟩ = some (.int .i64 (q1)) ∧ w'.cell? ⟨F.qb, nb * 2, none⟩ = some (.int .i64 (r2)) ∧ w'.cell? ⟨F.qb, nb * 2 + 1, none⟩ = some (.int .i64 (q2))) (simp [go_sem, ↓IntWalk.iteOmega, *]) (fail)
          all_goals clear p0 p1 p2 p3 i11
          · go_wp2
            first | with_reducible refine wp_region_ext2 (by kernel_rfl) (by kernel_rfl) ?_ | refine wp_region_ext (by kernel_rfl) (by kernel_rfl) ?_
            repeat (go_big_quiet_step (first | (go_at_call 24; exact Calls.ext_of (A1.out _)) | (go_at_call 24; exact Calls.ext_of (A2.out _))))
            refine wpQuiet_nil ?_
            rintro _ ⟨z, rfl⟩
            go_wp2_with (go_at_call 25; refine (HEN.out _ (HLr.out.below (by (repeat (first | with_reducible exact Below.rf _ | with_reducible exact World.below_ext _ _ | with_reducible refine Below.ex ?_ _ | with_reducible refine Below.al ?_ _ | with_reducible refine Below.setCell ?_ (by simp) _ | with_reducible refine Below.drew ?_))))).mono ?_; rintro e w' ⟨rfl, hw'⟩; obtain rfl := hw'.symm)
            go_roundw
            case rel =>
              refine ⟨j + 1, by go_num, by rw [HNX.out], by omega, HB.out.trans (Below.mono ?_ HB.out.size)⟩
              (repeat (first | with_reducible exact Below.rf _ | with_reducible exact World.below_ext _ _ | with_reducible refine Below.ex ?_ _ | with_reducible refine Below.al ?_ _ | with_reducible refine Below.setCell ?_ (by simp) _ | with_reducible refine Below.drew ?_))
            case measure => simp [intOf]; omega
          · go_wp2
            first | with_reducible refine wp_region_ext2 (by kernel_rfl) (by kernel_rfl) ?_ | refine wp_region_ext (by kernel_rfl) (by kernel_rfl) ?_
            repeat (go_big_quiet_step (first | (go_at_call 24; exact Calls.ext_of (A1.out _)) | (go_at_call 24; exact Calls.ext_of (A2.out _))))
            refine wpQuiet_nil ?_
            rintro _ ⟨z, rfl⟩
            go_wp2_with (go_at_call 25; refine (HEN.out _ (HLr.out.below (by (repeat (first | with_reducible exact Below.rf _ | with_reducible exact World.below_ext _ _ | with_reducible refine Below.ex ?_ _ | with_reducible refine Below.al ?_ _ | with_reducible refine Below.setCell ?_ (by simp) _ | with_reducible refine Below.drew ?_))))).mono ?_; rintro e w' ⟨rfl, hw'⟩; obtain rfl := hw'.symm)
            go_roundw
            case rel =>
              refine ⟨j + 1, by go_num, by rw [HNX.out], by omega, HB.out.trans (Below.mono ?_ HB.out.size)⟩
              (repeat (first | with_reducible exact Below.rf _ | with_reducible exact World.below_ext _ _ | with_reducible refine Below.ex ?_ _ | with_reducible refine Below.al ?_ _ | with_reducible refine Below.setCell ?_ (by simp) _ | with_reducible refine Below.drew ?_))
            case measure => simp [intOf]; omega
        · have dj : decide ((j : Int) < (la : Int)) = false := by simp; omega
          generalize prv (F.adj c) j = px
          go_wp2
          go_roundw
          case rel => exact ⟨c + 1, by go_num, by omega, HB.out⟩
          case measure => simp [intOf]; omega
    · have V := hid (valid_no F c wr HF.out (by omega) (by omega))
      go_wp2_with (go_at_call 20; refine V.out.mono ?_; rintro e w' ⟨rfl, hw'⟩; obtain rfl := hw'.symm)
      go_ret
      exact ⟨rfl, HB.out.is_ext⟩
end Go.Proofs.Qxb6500715aFmt
