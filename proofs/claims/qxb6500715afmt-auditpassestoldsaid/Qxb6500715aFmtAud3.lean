/-
  auditConnected: the walk.
-/
import Derived.Test.Qxb6500715aFmtUfc
import Derived.Test.Qxb6500715aFmtGr3
import Derived.Test.Qxb6500715aFmtAud2
import Derived.Test.Qxb6500715aFmtKind
import Derived.Test.Qxb6500715aFmtEdq
namespace Go.Proofs.Qxb6500715aFmt
open Go.RowKit
set_option linter.unusedSimpArgs false
set_option linter.unusedVariables false
/-- Both forests when i edges are done. -/
structure Cn2 (w0 w : World) (F : FP) (g1 p1 s1 g2 p2 s2 i : Nat) : Prop where
  A : ∃ p rt r R s, GrAt w g1 p1 s1 F.N p s (grp p F.N) ∧ UF F.N p rt r R ∧ CnA F rt i
  B : ∃ p rt r R s, GrAt w g2 p2 s2 F.N p s (grp p F.N) ∧ UF F.N p rt r R ∧ CnB F rt i
  ge : w0.heap.size ≤ g1 ∧ w0.heap.size ≤ p1 ∧ w0.heap.size ≤ s1 ∧ w0.heap.size ≤ g2 ∧ w0.heap.size ≤ p2 ∧ w0.heap.size ≤ s2
  ne : (g1 < g2 ∧ g1 < p2 ∧ g1 < s2) ∧ (p1 < g2 ∧ p1 < p2 ∧ p1 < s2) ∧ (s1 < g2 ∧ s1 < p2 ∧ s1 < s2)
  bel : Below w0.heap.size w0 w
section
variable {w0 w w' : World} {F : FP} {g1 p1 s1 g2 p2 s2 i : Nat}
theorem Cn2.below (h : Cn2 w0 w F g1 p1 s1 g2 p2 s2 i) (hb : Below w.heap.size w w') : Cn2 w0 w' F g1 p1 s1 g2 p2 s2 i := by
  obtain ⟨p, rt, r, R, s, h1, h2, h3⟩ := h.A
  obtain ⟨q, rt', r', R', s', k1, k2, k3⟩ := h.B
  exact ⟨⟨p, rt, r, R, s, h1.below hb, h2, h3⟩, ⟨q, rt', r', R', s', k1.below hb, k2, k3⟩, h.ge, h.ne, h.bel.trans (hb.mono h.bel.size)⟩
theorem Cn2.lt (h : Cn2 w0 w F g1 p1 s1 g2 p2 s2 i) : (g1 < w.heap.size ∧ p1 < w.heap.size ∧ s1 < w.heap.size) ∧ g2 < w.heap.size ∧ p2 < w.heap.size ∧ s2 < w.heap.size := by
  obtain ⟨p, rt, r, R, s, h1, h2, h3⟩ := h.A
  obtain ⟨q, rt', r', R', s', k1, k2, k3⟩ := h.B
  exact ⟨⟨h1.b.lt, h1.pp.lt, h1.ss.lt⟩, k1.b.lt, k1.pp.lt, k1.ss.lt⟩
end
/-- The first forest is one edge ahead. -/
structure Cn3 (w0 w : World) (F : FP) (g1 p1 s1 g2 p2 s2 i : Nat) : Prop where
  A : ∃ p rt r R s, GrAt w g1 p1 s1 F.N p s (grp p F.N) ∧ UF F.N p rt r R ∧ CnA F rt (i + 1)
  B : ∃ p rt r R s, GrAt w g2 p2 s2 F.N p s (grp p F.N) ∧ UF F.N p rt r R ∧ CnB F rt i
  ge : w0.heap.size ≤ g1 ∧ w0.heap.size ≤ p1 ∧ w0.heap.size ≤ s1 ∧ w0.heap.size ≤ g2 ∧ w0.heap.size ≤ p2 ∧ w0.heap.size ≤ s2
  ne : (g1 < g2 ∧ g1 < p2 ∧ g1 < s2) ∧ (p1 < g2 ∧ p1 < p2 ∧ p1 < s2) ∧ (s1 < g2 ∧ s1 < p2 ∧ s1 < s2)
  bel : Below w0.heap.size w0 w
theorem Cn2.joinA {w0 w : World} {F : FP} {g1 p1 s1 g2 p2 s2 i a b : Nat} (h : Cn2 w0 w F g1 p1 s1 g2 p2 s2 i) (ha : a < F.N) (hb : b < F.N) (hN : F.N ≤ 384) (he : (F.ends F.N)[i]? = some (a, b)) :
    Calls Tryf.prog 31 #[.pointer (some ⟨g1, 0, none⟩), .int .i64 (a), .int .i64 (b)] w fun e w' => e = .returned (.tuple #[]) ∧ Cn3 w0 w' F g1 p1 s1 g2 p2 s2 i ∧ Kp (fun x => x = g1 ∨ x = p1 ∨ x = s1) w w' := by
  obtain ⟨p, rt, r, R, s, h1, h2, h3⟩ := h.A
  obtain ⟨q, rt', r', R', s', k1, k2, k3⟩ := h.B
  refine (join_any g1 p1 s1 F.N p rt r R s a b w h1 h2 ha hb (by omega)).mono ?_
  rintro e w' ⟨rfl, p', rtn, rn, Rn, sn, j1, j2, j3, j4⟩
  have hg := h.ge
  have hn := h.ne
  exact ⟨rfl, ⟨⟨p', rtn, rn, Rn, sn, j1, j2, h3.join he j3⟩, ⟨q, rt', r', R', s', k1.kp j4 (by omega) (by omega) (by omega), k2, k3⟩, hg, hn, h.bel.trans (j4.below h.bel.size (fun k hk => by omega))⟩, j4⟩
theorem Cn3.joinB {w0 w : World} {F : FP} {g1 p1 s1 g2 p2 s2 i a b : Nat} (h : Cn3 w0 w F g1 p1 s1 g2 p2 s2 i) (ha : a < F.N) (hb : b < F.N) (hN : F.N ≤ 384) (he : (F.ends F.N)[i]? = some (a, b)) (a7 : F.kd (F.pl a) ≠ 7) (b7 : F.kd (F.pl b) ≠ 7) :
    Calls Tryf.prog 31 #[.pointer (some ⟨g2, 0, none⟩), .int .i64 (a), .int .i64 (b)] w fun e w' => e = .returned (.tuple #[]) ∧ Cn2 w0 w' F g1 p1 s1 g2 p2 s2 (i + 1) := by
  obtain ⟨p, rt, r, R, s, h1, h2, h3⟩ := h.A
  obtain ⟨q, rt', r', R', s', k1, k2, k3⟩ := h.B
  refine (join_any g2 p2 s2 F.N q rt' r' R' s' a b w k1 k2 ha hb (by omega)).mono ?_
  rintro e w' ⟨rfl, p', rtn, rn, Rn, sn, j1, j2, j3, j4⟩
  have hg := h.ge
  have hn := h.ne
  exact ⟨rfl, ⟨⟨p, rt, r, R, s, h1.kp j4 (by omega) (by omega) (by omega), h2, h3⟩, ⟨p', rtn, rn, Rn, sn, j1, j2, k3.join he a7 b7 j3⟩, hg, hn, h.bel.trans (j4.below h.bel.size (fun k hk => by omega))⟩⟩
theorem Cn3.skip {w0 w : World} {F : FP} {g1 p1 s1 g2 p2 s2 i a b : Nat} (h : Cn3 w0 w F g1 p1 s1 g2 p2 s2 i) (he : (F.ends F.N)[i]? = some (a, b)) (h7 : F.kd (F.pl a) = 7 ∨ F.kd (F.pl b) = 7) : Cn2 w0 w F g1 p1 s1 g2 p2 s2 (i + 1) := by
  obtain ⟨q, rt', r', R', s', k1, k2, k3⟩ := h.B
  exact ⟨h.A, ⟨q, rt', r', R', s', k1, k2, k3.skip he h7⟩, h.ge, h.ne, h.bel⟩
theorem grp_id (n : Nat) : grp (fun x => x) n = n := by
  unfold grp
  exact cntB_all n (fun i hi => by simp)
theorem isBay_is (F : FP) (c : Nat) (x : Bool) (w : World) (h : FlN w F) (hc : c < F.N) (hx : decide (F.kd (F.pl c) = 7) = x) : Calls Tryf.prog 32 #[.pointer (some ⟨F.fb, 0, none⟩), .int .i64 (c)] w fun e w' => e = .returned (.bool x) ∧ w' = w :=
  isBay_any F c x w h hc (by rw [own_bay h.pln hc]; exact hx)
theorem CnB.start {F : FP} : CnB F (fun x => x) 0 := ⟨fun k a b hk => by omega, fun x hx => ⟨rfl, fun y hy => hy⟩⟩
theorem Cn2.start {w w1 w2 : World} {F : FP} {g1 p1 s1 g2 p2 s2 : Nat} {sz1 sz2 : Nat → Int} (hG1 : GrAt w1 g1 p1 s1 F.N (fun x => x) sz1 F.N) (a1 : w.heap.size ≤ g1) (a2 : w.heap.size ≤ p1) (a3 : w.heap.size ≤ s1) (b1 : g1 < w1.heap.size) (b2 : p1 < w1.heap.size) (b3 : s1 < w1.heap.size) (hB1 : Below w.heap.size w w1)
    (hG2 : GrAt w2 g2 p2 s2 F.N (fun x => x) sz2 F.N) (c1 : w1.heap.size ≤ g2) (c2 : w1.heap.size ≤ p2) (c3 : w1.heap.size ≤ s2) (hB2 : Below w1.heap.size w1 w2) : Cn2 w w2 F g1 p1 s1 g2 p2 s2 0 := by
  have hs := hB1.size
  have e := grp_id F.N
  refine ⟨⟨_, _, _, _, sz1, ?_, UF.init F.N, fun k a b hk => by omega⟩, ⟨_, _, _, _, sz2, ?_, UF.init F.N, CnB.start⟩, by omega, by omega, hB1.trans (hB2.mono (by omega))⟩
  · rw [e]; exact hG1.below hB2
  · rw [e]; exact hG2
theorem Cn2.outA {w0 w : World} {F : FP} {g1 p1 s1 g2 p2 s2 i : Nat} (h : Cn2 w0 w F g1 p1 s1 g2 p2 s2 i) (hp : Pln F) (hN : 0 < F.N) (hi : i = (F.ends F.N).length) : w.cell? ⟨g1, 2, none⟩ = some (.int .i64 ((1 : Int))) := by
  obtain ⟨p, rt, r, R, s, h1, h2, h3⟩ := h.A
  rw [hi] at h3
  have := h1.b.is 2 (by omega)
  rw [CnA.one hp h2 hN h3] at this
  exact this
theorem Cn2.outB {w0 w : World} {F : FP} {g1 p1 s1 g2 p2 s2 i : Nat} (h : Cn2 w0 w F g1 p1 s1 g2 p2 s2 i) (hp : Pln F) (hN : 0 < F.N) (hi : i = (F.ends F.N).length) {d : Nat} (hd : d < F.N) (h7 : F.kd (F.pl d) ≠ 7) : w.cell? ⟨g2, 2, none⟩ = some (.int .i64 (1 + (F.n : Int))) := by
  obtain ⟨p, rt, r, R, s, h1, h2, h3⟩ := h.B
  rw [hi] at h3
  have := h1.b.is 2 (by omega)
  rw [CnB.cnt hp h2 hd h7 h3] at this
  exact this
set_option maxRecDepth 20000 in
set_option maxHeartbeats 4000000 in
theorem audConn (F : FP) (eb xb cp : Nat) (ao : Option Addr) (w : World) (h : FlN w F) (hN : 1 ≤ F.N ∧ F.N ≤ 384) (hE : Edg w F eb ao xb cp) :
    Calls Tryf.prog 13 #[.pointer (some ⟨F.fb, 0, none⟩)] w fun e w' => e = .returned .nilIface ∧ ∃ z, w' = w.ext z := by
  have H := hid h
  have HE := hid hE
  have C1 := hid (cells_any F w h)
  have C2 := hid (newGroups_any F.N (by omega) w)
  obtain ⟨m, hm⟩ : ∃ m, (F.ends F.N).length = m := ⟨_, rfl⟩
  have HM := hid hm
  have hmb : m ≤ 1000 := by
    have h1 := ends_len h.plain (by have := h.hWb; omega)
    have h3 : F.st F.N ≤ 4 * F.N := F.flat_len F.N
    omega
  clear h hE hm
  go_enter Tryf.func13, Tryf.ntmps13
  go_wp2_with (first | (go_at_call 30; first | (refine C1.out.mono ?_; rintro e w' ⟨rfl, hw'⟩; obtain rfl := hw'.symm) | (refine C3.out.mono ?_; rintro e w' ⟨rfl, hw'⟩; obtain rfl := hw'.symm)) | (go_at_call 29; first | (refine C2.out.mono ?_; rintro e w1 ⟨g1, p1, s1, sz1, rfl, hG1, a1, a2, a3, b1, b2, b3, hB1⟩; clear C1 C2; have C3 := hid (cells_any F w1 (H.out.below hB1)); have C4 := hid (newGroups_any F.N (by omega) w1); have HG1 := hid hG1; have HB1 := hid hB1; clear hG1 hB1) | (refine C4.out.mono ?_; rintro e w2 ⟨g2, p2, s2, sz2, rfl, hG2, c1, c2, c3, d1, d2, d3, hB2⟩; clear C3 C4; have HC := hid (Cn2.start HG1.out a1 a2 a3 b1 b2 b3 HB1.out hG2 c1 c2 c3 hB2); have k18 := (HE.out.below HC.out.bel).k18; have hfb := (HE.out.below HC.out.bel).lf; rw [HM.out] at k18; clear hG2 hB2 HG1 HB1 a1 a2 a3 b1 b2 b3 c1 c2 c3 d1 d2 d3)))
  go_loopw [19] (fun v wr => ∃ i : Nat, v = .int .i64 (i) ∧ i ≤ m ∧ Cn2 w wr F g1 p1 s1 g2 p2 s2 i) (fun v _ => m - (intOf v).toNat)
  case atStart => exact ⟨0, rfl, Nat.zero_le _, HC.out⟩
  case round =>
    clear HC k18 hfb
    obtain ⟨i, rfl, hi, hC⟩ := hrel
    have HC := hid hC
    have HEr := hid (HE.out.below hC.bel)
    have HFr := hid (H.out.below hC.bel)
    have hfb := HEr.out.lf
    have hxl := HEr.out.lx
    by_cases e : i < m
    · obtain ⟨⟨a, b⟩, hab⟩ : ∃ p, (F.ends F.N)[i]? = some p := ⟨_, List.getElem?_eq_getElem (by rw [HM.out]; exact e)⟩
      have hm' := (mem_ends F).1 (List.mem_of_getElem? hab)
      have ha : a < F.N := hm'.1
      have hb : b < F.N := adj_lt H.out.plain ha hm'.2.1
      have x0 := HEr.out.x0 i (a, b) hab
      have x1 := HEr.out.x1 i (a, b) hab
      obtain rfl := HEr.out.xo (by rw [HM.out]; omega)
      have HAB := hid hab
      have di : decide ((i : Int) < (m : Int)) = true := by simp; omega
      simp only [Nat.mul_comm 2 i] at x0 x1
      clear hm' hab hC
      go_wp2_with (go_at_call 31; refine hold ?_)
      unfold Hid
      refine ((HC.out.below ((Below.rf _).al _)).joinA ha hb hN.2 HAB.out).mono ?_
      rintro e w3 ⟨rfl, hC3, hK3⟩
      have hlt := HC.out.lt
      have ne3 : ¬ (wr.heap.size = g1 ∨ wr.heap.size = p1 ∨ wr.heap.size = s1) := by omega
      have c0 : w3.cell? ⟨wr.heap.size, 0, none⟩ = some (.int .i64 (a)) := (World.cell?_of_block (hK3.block _ (by simp) ne3)).trans (by simp [go_sem, ↓IntWalk.iteOmega])
      have c1 : w3.cell? ⟨wr.heap.size, 1, none⟩ = some (.int .i64 (b)) := (World.cell?_of_block (hK3.block _ (by simp) ne3)).trans (by simp [go_sem, ↓IntWalk.iteOmega])
      have hl3 : wr.heap.size < w3.heap.size := Nat.lt_of_lt_of_le (by simp) hK3.size
      have HC3 := hid hC3
      have HF3 := hid (H.out.below hC3.bel)
      obtain ⟨bb, hbb⟩ : ∃ x, wr.heap.size = x := ⟨_, rfl⟩
      rw [hbb] at c0 c1 hl3
      rw [hbb]
      clear hC3 hK3 ne3 hlt hbb x0 x1 hfb hxl HC HEr HFr
      by_cases a7 : F.kd (F.pl a) = 7
      · have IA := hid (isBay_is F a true w3 HF3.out ha (decide_eq_true a7))
        have HR := hid (HC3.out.skip HAB.out (Or.inl a7))
        clear a7
        go_wp2_with (go_at_call 32; refine IA.out.mono ?_; rintro e w' ⟨rfl, hw'⟩; obtain rfl := hw'.symm)
        go_roundw
        case rel => exact ⟨i + 1, by go_num, by omega, HR.out⟩
        case measure => simp [intOf]; omega
      · by_cases b7 : F.kd (F.pl b) = 7
        · have IA := hid (isBay_is F a false w3 HF3.out ha (decide_eq_false a7))
          have IB := hid (isBay_is F b true w3 HF3.out hb (decide_eq_true b7))
          have HR := hid (HC3.out.skip HAB.out (Or.inr b7))
          clear a7 b7
          go_wp2_with (go_at_call 32; first | (with_reducible refine IA.out.mono ?_; rintro e w' ⟨rfl, hw'⟩; obtain rfl := hw'.symm) | (with_reducible refine IB.out.mono ?_; rintro e w' ⟨rfl, hw'⟩; obtain rfl := hw'.symm))
          go_roundw
          case rel => exact ⟨i + 1, by go_num, by omega, HR.out⟩
          case measure => simp [intOf]; omega
        · have IA := hid (isBay_is F a false w3 HF3.out ha (decide_eq_false a7))
          have IB := hid (isBay_is F b false w3 HF3.out hb (decide_eq_false b7))
          have JB := hid (HC3.out.joinB ha hb hN.2 HAB.out a7 b7)
          clear a7 b7
          go_wp2_with (first | (go_at_call 32; first | (with_reducible refine IA.out.mono ?_; rintro e w' ⟨rfl, hw'⟩; obtain rfl := hw'.symm) | (with_reducible refine IB.out.mono ?_; rintro e w' ⟨rfl, hw'⟩; obtain rfl := hw'.symm)) | (go_at_call 31; refine JB.out.mono ?_; rintro e w4 ⟨rfl, hC4⟩; have HC4 := hid hC4; clear hC4))
          go_roundw
          case rel => exact ⟨i + 1, by go_num, by omega, HC4.out⟩
          case measure => simp [intOf]; omega
    · have hie : i = m := by omega
      have di : decide ((i : Int) < (m : Int)) = false := by simp; omega
      have gA := HC.out.outA H.out.pln (by omega) (by rw [HM.out]; exact hie)
      have gB := HC.out.outB H.out.pln (by omega) (by rw [HM.out]; exact hie) (depot_kd H.out).1 (by rw [(depot_kd H.out).2]; decide)
      have lg := HC.out.lt
      obtain ⟨⟨l1, -, -⟩, l2, -, -⟩ := lg
      have i13 := HFr.out.num.i13
      have hn := HFr.out.lay.hn
      clear hC hie
      go_wp2
      go_ret
      exact ⟨rfl, HC.out.bel.is_ext⟩
end Go.Proofs.Qxb6500715aFmt
