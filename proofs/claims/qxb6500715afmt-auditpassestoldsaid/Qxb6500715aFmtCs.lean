/-
  CellSlots: the walk.
-/
import Derived.Test.Qxb6500715aFmtSlF
import Derived.Test.Qxb6500715aFmtAud1
namespace Go.Proofs.Qxb6500715aFmt
open Go.RowKit
set_option linter.unusedSimpArgs false
set_option linter.unusedVariables false
theorem _root_.Go.KeptBut.below_of {B : Nat} {wb w w' : World} (h : Below wb.heap.size wb w) (hk : KeptBut B w w') (hB : wb.heap.size ≤ B) : Below wb.heap.size wb w' :=
  h.trans (hk.to_below hB h.size)
theorem Pad.made (w : World) (Z : Array Value) (e : TypeId) (k g : Nat) (vs : List Value) (hg : g = w.heap.size) (hk : Z.size = k) (hl : vs.length ≤ k) (hv : ∀ (j : Nat) u, vs[j]? = some u → Z[j]? = some u) : Pad (w.alloc (.cells Z e)) g k vs := by
  subst hg
  have hb : (w.alloc (.cells Z e)).heap[w.heap.size]? = some (.cells Z e) := heap_alloc_new w _
  refine ⟨by simp, fun j hj => ?_, fun j hj => ?_, fun j u hu => ?_, hl⟩
  · rw [cell_of_row _ _ j Z e (0, 0) hb, Array.getElem?_eq_getElem (by omega)]; rfl
  · unfold World.frozen?; simp only [hb]; simp
  · rw [cell_of_row _ _ j Z e (0, 0) hb]; exact hv j u hu
def idRow (T : List Nat) : List Value := T.map fun (c : Nat) => .int .i64 (c)
/-- The slots from b on. -/
def slr (b k : Nat) : List Nat := (List.range k).map fun i => b + i
theorem slr_len (b k : Nat) : (idRow (slr b k)).length = k := by simp [idRow, slr]
theorem slr_succ (b k : Nat) : slr b (k + 1) = slr b k ++ [b + k] := by simp [slr, List.range_succ]
def csPost (b D : Nat) (w : World) (e : Ending) (w' : World) : Prop :=
  ∃ g : Nat, e = .returned (.slice (some ⟨g, 0, none⟩) D D) ∧ g < w'.heap.size ∧ (∀ i, i < D → w'.cell? ⟨g, i, none⟩ = some (.int .i64 ((b + i : Nat)))) ∧ Below w.heap.size w w'
set_option maxRecDepth 20000 in
set_option maxHeartbeats 4000000 in
theorem cellSlots_any (F : FP) (c al po m1 m2 : Nat) (w : World) (h : FlN w F) (hc : c < F.N) (hk : F.kd (F.pl c) = 4) (hal : al < F.A) (hpo : po < F.S) (hq : F.col c = 1 + al * F.P) (hr : F.row c = 2 + po) (e1 : al * F.S = m1) (e2 : (m1 + po) * F.D = m2) (hm : m2 ≤ 500) :
    Calls Tryf.prog 35 #[.pointer (some ⟨F.fb, 0, none⟩), .int .i64 (c)] w (csPost m2 F.D w) := by
  have HH := hid h
  have hD := h.lay.hD
  have d3 := h.hdr.h3
  have hfb := h.hdr.hfb
  have AO := hid (aisleOf_yes F c al (2 + po) w h hc hk hal hq hr)
  rw [show (((2 + po : Nat) : Int) - 2) = (po : Int) by omega] at AO
  have SA := hid (fun (si : Nat) (w' : World) (h' : FlN w' F) (h3 : si < F.D) => slotAt_any F al po si (m2 + si) m1 m2 w' h' hal hpo h3 e1 e2 rfl (by omega))
  obtain ⟨Z, hZ, hmk⟩ := make_cap (P := Tryf.prog) 82 79 (.int .i64 0) 1 8 Tryf.underlying82 (by kernel_rfl) F.D (by omega) (by omega)
  clear h hk hq hr e1 e2
  go_enter Tryf.func35, Tryf.ntmps35
  go_wp2_with (go_at_call 59; refine AO.out.mono ?_; rintro e w1 ⟨rfl, hz⟩; have HB1 := hid (ext_below' hz); have d31 := (HH.out.below HB1.out).hdr.h3; have hfb1 := (HH.out.below HB1.out).hdr.hfb; clear hz)
  have hB1 := HB1.out
  obtain ⟨g, hg⟩ : ∃ x, w1.heap.size = x := ⟨_, rfl⟩
  have hp0 : Pad (w1.alloc (.cells Z 79)) g F.D (idRow (slr m2 0)) := Pad.made w1 Z 79 F.D g _ hg.symm (by omega) (by simp [idRow, slr]) (by simp [idRow, slr])
  have hB0 : Below w.heap.size w (w1.alloc (.cells Z 79)) := hB1.al _
  have HP0 := hid hp0
  have HB0 := hid hB0
  have HG := hid hg
  have hgw : w.heap.size ≤ g := by rw [← hg]; exact hB1.size
  rw [hg]
  clear hp0 hB0 hmk hg hB1 AO d31 hfb1
  go_loopw [8, 9] (fun v x wr => ∃ t : Nat, v = .slice (some ⟨g, 0, none⟩) t F.D ∧ x = .int .i64 (t) ∧ t ≤ F.D ∧ Pad wr g F.D (idRow (slr m2 t)) ∧ Below w.heap.size w wr) (fun _ x _ => F.D - (intOf x).toNat)
  case atStart => exact ⟨0, rfl, rfl, Nat.zero_le _, HP0.out, HB0.out⟩
  case round =>
    clear HP0 HB0 HB1 HG d3 hfb
    obtain ⟨t, rfl, rfl, ht, hP, hB⟩ := hrel
    have HP := hid hP
    have HB := hid hB
    have HF := hid (HH.out.below hB)
    have d3 := HF.out.hdr.h3
    have hfb := HF.out.hdr.hfb
    have hsz := hB.size
    have hgl := hP.lt
    by_cases hlt : t < F.D
    · have dt : decide ((t : Int) < (F.D : Int)) = true := by simp; omega
      have SB := hid (SA.out t wr HF.out hlt)
      have hil := slr_len m2 t
      have HSU := hid (slr_succ m2 t)
      obtain ⟨x, hx⟩ : ∃ x, m2 + t = x := ⟨_, rfl⟩
      rw [hx] at SB HSU
      clear hP hB hx
      go_wp2_with (first | (go_at_call 60; refine SB.out.mono ?_; rintro e w' ⟨rfl, z1, rfl⟩) | (at_builtin; refine hold ?_))
      unfold Hid
      refine wp_pad rfl _ _ 82 rfl 79 (.int .i64 0) 1 8 Tryf.underlying82 (by kernel_rfl) g t F.D F.D (idRow (slr m2 t)) rfl (HP.out.below (by (repeat (first | with_reducible exact Below.rf _ | with_reducible exact World.below_ext _ _ | with_reducible refine Below.ex ?_ _ | with_reducible refine Below.al ?_ _ | with_reducible refine Below.setCell ?_ (by simp) _ | with_reducible refine Below.drew ?_)))) (by omega) _ 0 1 1 [.int .i64 (x)] rfl rfl ?_ (by simp [Value.oneCell']) (by omega) (by omega) ?_
      · intro j u hj; simp [go_sem, ↓IntWalk.iteOmega]; simpa using hj
      intro w6 hp6 hk6 hs6
      have hB6 : Below w.heap.size w w6 := KeptBut.below_of (HB.out.trans (Below.mono (by (repeat (first | with_reducible exact Below.rf _ | with_reducible exact World.below_ext _ _ | with_reducible refine Below.ex ?_ _ | with_reducible refine Below.al ?_ _ | with_reducible refine Below.setCell ?_ (by simp) _ | with_reducible refine Below.drew ?_))) hsz)) hk6 hgw
      have hp7 : Pad w6 g F.D (idRow (slr m2 (t + 1))) := by
        rw [HSU.out]; unfold idRow at hp6 ⊢; rw [List.map_append]; exact hp6
      have HP7 := hid hp7
      have HB6 := hid hB6
      clear hp6 hk6 hs6 hB6 hp7
      go_wp2
      go_roundw
      case rel => exact ⟨t + 1, rfl, by go_num, by omega, HP7.out, HB6.out⟩
      case measure => simp [intOf]; omega
    · obtain rfl : t = F.D := by omega
      clear hP hB
      go_wp2
      go_ret
      exact ⟨g, rfl, HP.out.lt, fun i hi => HP.out.is i _ (by simp [idRow, slr, hi]), HB.out⟩
end Go.Proofs.Qxb6500715aFmt
