/-
  checkGoals, newEstimate: the walks.
-/
import Derived.Test.Qxb6500716aFe
namespace Go.Proofs.Qxb6500716a
open Go.RowKit Go.Maps
set_option linter.unusedSimpArgs false
set_option linter.unusedVariables false
set_option maxRecDepth 20000
set_option maxHeartbeats 4000000

def g1ok (F : FS) (p : Int × Int) : Prop := (0 ≤ p.1 ∧ p.1 < (F.n : Int)) ∧ 0 ≤ p.2 ∧ p.2 ≤ 64
def FS.gokD (F : FS) (gl : List (Int × Int)) : Decidable (F.gok gl) := by
  unfold FS.gok
  exact inferInstance
def FS.gcode (F : FS) (gl : List (Int × Int)) : Int := haveI := F.gokD gl; if F.gok gl then 0 else 2
theorem gcode_ok {F : FS} {gl : List (Int × Int)} : F.gcode gl = 0 ↔ F.gok gl := by
  unfold FS.gcode
  split <;> simp_all
theorem checkGoals_any (pb fb : Nat) (F : FS) (lab : Nat → Nat) (v : Value) (gl : List (Int × Int)) (w : World) (hF : FAt w lab fb F) (hp : w.cell? ⟨pb, 0, none⟩ = some (.pointer (some ⟨fb, 0, none⟩))) (hpl : pb < w.heap.size) (hg : GAt w lab v gl) :
    Calls Try.prog 59 #[.pointer (some ⟨pb, 0, none⟩), v] w fun e w' => e = .returned (.int .u8 (F.gcode gl)) ∧ ∃ z, w' = w.ext z := by
  obtain ⟨ao, cap, rfl, hcap⟩ := hg.ex
  have HG := hid hg
  have hgl := hg.len
  obtain ⟨n, hn⟩ : ∃ n, gl.length = n := ⟨_, rfl⟩
  rw [hn] at hcap HG hgl ⊢
  have HN := hid hn
  have VF := hid (fun (c : Int) (w' : World) (h : Below w.heap.size w w') => valid_any fb F lab c w' (hF.below h))
  have hfl := hF.lt
  obtain ⟨res, hres⟩ : ∃ x, F.gcode gl = x := ⟨_, rfl⟩
  rw [hres]
  have HR := hid hres
  clear hn hg hF hres
  by_cases h16 : 16 < n
  · have HR2 : Hid (res = 2) := by
      show res = 2
      rw [← HR.out]; unfold FS.gcode; rw [if_neg (fun h => by have := h.1; rw [HN.out] at this; omega)]
    clear HR
    go_enter Try.func59, Try.ntmps59
    go_wp2
    go_ret
    exact ⟨by rw [HR2.out]; rfl, (Below.rf _).is_ext⟩
  · go_enter Try.func59, Try.ntmps59
    go_wp2
    go_loopw [12] (fun x wr => ∃ k : Nat, x = .int .i64 (k) ∧ k ≤ n ∧ (∀ j p, j < k → gl[j]? = some p → g1ok F p) ∧ Below w.heap.size w wr) (fun x _ => n - (intOf x).toNat)
    case atStart => exact ⟨0, rfl, Nat.zero_le _, fun j p h => by omega, Below.rf _⟩
    case round =>
      obtain ⟨k, rfl, hk, hok, hB⟩ := hrel
      have HO := hid hok
      have HB := hid hB
      have hsz := hB.size
      by_cases hkn : k < n
      · have hkl : k < gl.length := by rw [HN.out]; exact hkn
        have hx : gl[k]? = some gl[k] := List.getElem?_eq_getElem hkl
        generalize gl[k] = p at *
        obtain ⟨b, n', cap', hv, hbl, -, q1, q2⟩ := HG.out.row k p hx
        simp only [Value.slice.injEq] at hv
        obtain ⟨rfl, -, -⟩ := hv
        have r1 : wr.cell? ⟨b, k * 2, none⟩ = some (.int .i64 (p.1)) := (World.cell?_of_block (hB.block b hbl)).trans q1
        have r2 : wr.cell? ⟨b, k * 2 + 1, none⟩ = some (.int .i64 (p.2)) := (World.cell?_of_block (hB.block b hbl)).trans q2
        have hp' : wr.cell? ⟨pb, 0, none⟩ = some (.pointer (some ⟨fb, 0, none⟩)) := (World.cell?_of_block (hB.block pb hpl)).trans hp
        have ip := HG.out.i64 p (List.mem_of_getElem? hx)
        have V1 := hid (fun (w' : World) (h : Below wr.heap.size wr w') => VF.out p.1 w' (HB.out.trans (h.mono HB.out.size)))
        have HX := hid hx
        have dk : decide ((k : Int) < (n : Int)) = true := by simp; omega
        have hbw : b < wr.heap.size := by omega
        have hpw : pb < wr.heap.size := by omega
        clear hok hB q1 q2 hx ip
        have HBAD : Hid (¬ g1ok F p → res = 2) := fun hno => by
          rw [← HR.out]; unfold FS.gcode
          rw [if_neg (fun h => hno (h.2 p (List.mem_of_getElem? HX.out)))]
        cases hv : F.valid p.1 with
        | false =>
          have HE : Hid (res = 2) := HBAD.out (fun h => by have := FS.valid_iff.2 h.1; rw [hv] at this; cases this)
          rw [hv] at V1
          clear hv HBAD
          go_wp2
          first | with_reducible refine wp_region_ext2 (by kernel_rfl) (by kernel_rfl) ?_ | refine wp_region_ext (by kernel_rfl) (by kernel_rfl) ?_
          repeat (go_big_quiet_step ((go_at_call 53; exact Calls.ext_of_same (V1.out _ (by (repeat (first | with_reducible exact Below.rf _ | with_reducible exact World.below_ext _ _ | with_reducible refine Below.ex ?_ _ | with_reducible refine Below.al ?_ _ | with_reducible refine Below.setCell ?_ (by simp) _ | with_reducible refine Below.drew ?_)))))))
          refine wpQuiet_nil ?_
          rintro _ ⟨z, rfl⟩
          go_wp2
          go_ret
          refine ⟨by rw [HE.out]; rfl, Below.is_ext ?_⟩
          refine HB.out.trans (Below.mono ?_ HB.out.size)
          (repeat (first | with_reducible exact Below.rf _ | with_reducible exact World.below_ext _ _ | with_reducible refine Below.ex ?_ _ | with_reducible refine Below.al ?_ _ | with_reducible refine Below.setCell ?_ (by simp) _ | with_reducible refine Below.drew ?_))
        | true =>
          rw [hv] at V1
          by_cases d1 : p.2 < 0
          · have HE : Hid (res = 2) := HBAD.out (fun h => by have := h.2.1; omega)
            have x1 : decide (p.2 < 0) = true := by simp [d1]
            clear hv HBAD
            go_wp2
            first | with_reducible refine wp_region_ext2 (by kernel_rfl) (by kernel_rfl) ?_ | refine wp_region_ext (by kernel_rfl) (by kernel_rfl) ?_
            repeat (go_big_quiet_step ((go_at_call 53; exact Calls.ext_of_same (V1.out _ (by (repeat (first | with_reducible exact Below.rf _ | with_reducible exact World.below_ext _ _ | with_reducible refine Below.ex ?_ _ | with_reducible refine Below.al ?_ _ | with_reducible refine Below.setCell ?_ (by simp) _ | with_reducible refine Below.drew ?_)))))))
            refine wpQuiet_nil ?_
            rintro _ ⟨z, rfl⟩
            go_wp2
            go_ret
            refine ⟨by rw [HE.out]; rfl, Below.is_ext ?_⟩
            refine HB.out.trans (Below.mono ?_ HB.out.size)
            (repeat (first | with_reducible exact Below.rf _ | with_reducible exact World.below_ext _ _ | with_reducible refine Below.ex ?_ _ | with_reducible refine Below.al ?_ _ | with_reducible refine Below.setCell ?_ (by simp) _ | with_reducible refine Below.drew ?_))
          · by_cases d2 : 64 < p.2
            · have HE : Hid (res = 2) := HBAD.out (fun h => by have := h.2.2; omega)
              have x1 : decide (p.2 < 0) = false := by simp; omega
              have x2 : decide (64 < p.2) = true := by simp; omega
              clear hv HBAD
              go_wp2
              first | with_reducible refine wp_region_ext2 (by kernel_rfl) (by kernel_rfl) ?_ | refine wp_region_ext (by kernel_rfl) (by kernel_rfl) ?_
              repeat (go_big_quiet_step ((go_at_call 53; exact Calls.ext_of_same (V1.out _ (by (repeat (first | with_reducible exact Below.rf _ | with_reducible exact World.below_ext _ _ | with_reducible refine Below.ex ?_ _ | with_reducible refine Below.al ?_ _ | with_reducible refine Below.setCell ?_ (by simp) _ | with_reducible refine Below.drew ?_)))))))
              refine wpQuiet_nil ?_
              rintro _ ⟨z, rfl⟩
              go_wp2
              go_ret
              refine ⟨by rw [HE.out]; rfl, Below.is_ext ?_⟩
              refine HB.out.trans (Below.mono ?_ HB.out.size)
              (repeat (first | with_reducible exact Below.rf _ | with_reducible exact World.below_ext _ _ | with_reducible refine Below.ex ?_ _ | with_reducible refine Below.al ?_ _ | with_reducible refine Below.setCell ?_ (by simp) _ | with_reducible refine Below.drew ?_))
            · have HGD : Hid (g1ok F p) := ⟨FS.valid_iff.1 hv, by omega, by omega⟩
              have x1 : decide (p.2 < 0) = false := by simp; omega
              have x2 : decide (64 < p.2) = false := by simp; omega
              clear hv HBAD
              go_wp2
              first | with_reducible refine wp_region_ext2 (by kernel_rfl) (by kernel_rfl) ?_ | refine wp_region_ext (by kernel_rfl) (by kernel_rfl) ?_
              repeat (go_big_quiet_step ((go_at_call 53; exact Calls.ext_of_same (V1.out _ (by (repeat (first | with_reducible exact Below.rf _ | with_reducible exact World.below_ext _ _ | with_reducible refine Below.ex ?_ _ | with_reducible refine Below.al ?_ _ | with_reducible refine Below.setCell ?_ (by simp) _ | with_reducible refine Below.drew ?_)))))))
              refine wpQuiet_nil ?_
              rintro _ ⟨z, rfl⟩
              go_wp2
              go_roundw
              case rel =>
                refine ⟨k + 1, by go_num, by omega, fun j p' hj hp' => ?_, ?_⟩
                · by_cases e : j = k
                  · subst e
                    rw [HX.out] at hp'
                    cases hp'
                    exact HGD.out
                  · exact HO.out j p' (by omega) hp'
                · refine HB.out.trans (Below.mono ?_ HB.out.size)
                  (repeat (first | with_reducible exact Below.rf _ | with_reducible exact World.below_ext _ _ | with_reducible refine Below.ex ?_ _ | with_reducible refine Below.al ?_ _ | with_reducible refine Below.setCell ?_ (by simp) _ | with_reducible refine Below.drew ?_))
              case measure => simp [intOf]; omega
      · have HE : Hid (res = 0) := by
          show res = 0
          rw [← HR.out, gcode_ok]
          refine ⟨by rw [HN.out]; omega, fun p hp => ?_⟩
          obtain ⟨j, hj, e⟩ := List.getElem_of_mem hp
          exact hok j p (by rw [HN.out] at hj; omega) (by rw [List.getElem?_eq_getElem hj, e])
        clear hok hB
        go_wp2
        go_ret
        exact ⟨by rw [HE.out]; rfl, HB.out.is_ext⟩
end Go.Proofs.Qxb6500716a
