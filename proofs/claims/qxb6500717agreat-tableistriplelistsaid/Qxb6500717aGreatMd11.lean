/-
  The model: Advance.
-/
import Derived.Test.Qxb6500717aGreatMd10
namespace Go.Proofs.Qxb6500717aGreat
open Go.RowKit
set_option linter.unusedSimpArgs false
set_option linter.unusedVariables false
set_option maxRecDepth 20000
set_option maxHeartbeats 4000000

def trAdv (t : Nat) : List (Nat × Nat × Nat) → List (Nat × Nat × Nat)
  | [] => []
  | x :: l => if t ≤ x.2.2 then x :: trAdv t l else trAdv t l
def spAdv1 (t : Nat) (x : Nat × Nat × Nat × Nat) : Nat × Nat × Nat × Nat := if x.2.2.1 < t then (x.1, x.2.1, t, x.2.2.2) else x
def spAdv (t : Nat) : List (Nat × Nat × Nat × Nat) → List (Nat × Nat × Nat × Nat)
  | [] => []
  | x :: l => if (spAdv1 t x).2.2.1 < (spAdv1 t x).2.2.2 then spAdv1 t x :: spAdv t l else spAdv t l
def MdS.adv (S : MdS) (t : Nat) : MdS := { S with base := t, tr := trAdv t S.tr, sp := spAdv t S.sp }
def MdS.advance (S : MdS) (t : Int) : Int × MdS := if t < S.base then (3, S) else if 1073741824 < t then (4, S) else (0, S.adv t.toNat)
theorem MdS.advance_yes {S : MdS} {t : Nat} (h : S.base ≤ t ∧ t ≤ 1073741824) : S.advance t = (0, S.adv t) := by
  unfold MdS.advance
  rw [if_neg (by omega), if_neg (by omega), Int.toNat_natCast]
theorem trAdv_mem (t : Nat) (l : List (Nat × Nat × Nat)) : ∀ x, x ∈ trAdv t l → x ∈ l ∧ t ≤ x.2.2 := by
  induction l with
  | nil => simp [trAdv]
  | cons y l ih =>
    intro x hx
    simp only [trAdv] at hx
    split at hx
    · next h =>
      rcases List.mem_cons.1 hx with rfl | hx
      · exact ⟨List.mem_cons_self, h⟩
      · exact ⟨List.mem_cons_of_mem _ (ih x hx).1, (ih x hx).2⟩
    · exact ⟨List.mem_cons_of_mem _ (ih x hx).1, (ih x hx).2⟩
theorem spAdv_bd (t : Nat) (l : List (Nat × Nat × Nat × Nat)) (ht : t ≤ 1073741824) (h : ∀ x, x ∈ l → x.1 < 6 ∧ x.2.1 < 150 ∧ x.2.2.1 ≤ 2000000000 ∧ x.2.2.2 ≤ 1099511627776) : ∀ x, x ∈ spAdv t l → x.1 < 6 ∧ x.2.1 < 150 ∧ x.2.2.1 ≤ 2000000000 ∧ x.2.2.2 ≤ 1099511627776 := by
  induction l with
  | nil => simp [spAdv]
  | cons y l ih =>
    intro x hx
    have hy := h y List.mem_cons_self
    have ih := ih (fun z hz => h z (List.mem_cons_of_mem _ hz))
    simp only [spAdv] at hx
    split at hx
    · rcases List.mem_cons.1 hx with rfl | hx
      · unfold spAdv1
        split
        · simp only; omega
        · exact hy
      · exact ih x hx
    · exact ih x hx
/-- The base is replaced. -/
theorem MdX.setB {w : World} {m : Nat} {S : MdS} {V : MV} (h : MdX w m S V) {t : Nat} (ht : t ≤ 1073741824) : MdX (w.setCell ⟨m, 4, none⟩ (.int .i64 (t))) m { S with base := t } V := by
  have kb : KeptBut m w (w.setCell ⟨m, 4, none⟩ (.int .i64 (t))) := (KeptBut.refl m w).set' _ _
  have oth := setoth (w := w) (m := m) 4 (.int .i64 (t))
  obtain ⟨v5, a5, b5⟩ := h.z5
  obtain ⟨v6, a6, b6⟩ := h.z6
  have c4 := World.cell?_setCell_same w ⟨m, 4, none⟩ (.int .i64 (t)) h.rd.c4
  exact ⟨⟨by simpa using h.rd.lt, (oth 0 (by omega)).trans h.rd.c0, (oth 1 (by omega)).trans h.rd.c1, (oth 2 (by omega)).trans h.rd.c2, (oth 3 (by omega)).trans h.rd.c3, c4, ⟨v5, (oth 5 (by omega)).trans a5, (b5.kept h.gm kb).lat⟩, ⟨v6, (oth 6 (by omega)).trans a6, (b6.kept h.gm kb).lat⟩, ⟨h.rd.bn.1, h.rd.bn.2.1, h.rd.bn.2.2.1, ht⟩, h.rd.bt, h.rd.bs⟩, fun i hi => by rw [World.frozen?_setCell]; exact h.fz i hi, fun i h1 h2 => (oth i (by omega)).trans (h.cv i h1 h2), ⟨v5, (oth 5 (by omega)).trans a5, b5.kept h.gm kb⟩, ⟨v6, (oth 6 (by omega)).trans a6, b6.kept h.gm kb⟩, h.gm, fun j hj => h.gf j (by simpa using hj)⟩

theorem madv_any (m : Nat) (S0 : MdS) (V : MV) (t : Int) (w : World) (h : MdX w m S0 V) : Calls Tryz.prog 45 #[.pointer (some ⟨m, 0, none⟩), .int .i64 (t)] w (mresPost m (S0.advance t) V w) := by
  have HH := hid h
  have lt := h.rd.lt
  have c4 := h.rd.c4
  have hbn := h.rd.bn
  by_cases h1 : t < (S0.base : Int)
  · unfold MdS.advance
    rw [if_pos h1]
    clear h
    go_enter Tryz.func45, Tryz.ntmps45
    go_wp2
    go_ret
    exact ⟨rfl, HH.out, KeptBut.refl _ _⟩
  by_cases h2 : 1073741824 < t
  · unfold MdS.advance
    rw [if_neg h1, if_pos h2]
    clear h
    go_enter Tryz.func45, Tryz.ntmps45
    go_wp2
    go_ret
    exact ⟨rfl, HH.out, KeptBut.refl _ _⟩
  obtain ⟨tn, rfl⟩ := Int.eq_ofNat_of_zero_le (show 0 ≤ t by omega)
  have htn : S0.base ≤ tn ∧ tn ≤ 1073741824 := by omega
  have f4 := h.fz 4 (by omega)
  have hM0 := h.setB (t := tn) htn.2
  obtain ⟨v5, a5, -⟩ := hM0.rd.l5
  obtain ⟨v6, a6, -⟩ := hM0.rd.l6
  rw [setoth 4 _ 5 (by omega)] at a5
  rw [setoth 4 _ 6 (by omega)] at a6
  obtain ⟨v5', a5', b5'⟩ := h.rd.l5
  have e5 : v5' = v5 := by rw [a5] at a5'; exact (Option.some.inj a5').symm
  subst e5
  obtain ⟨v6', a6', b6'⟩ := h.rd.l6
  have e6 : v6' = v6 := by rw [a6] at a6'; exact (Option.some.inj a6').symm
  subst e6
  obtain ⟨ao1, cap1, rfl, lc1, -⟩ := b5'
  obtain ⟨ao2, cap2, rfl, lc2, -⟩ := b6'
  have hbt := h.rd.bt.1
  have hbs := h.rd.bs.1
  have A5 := hid ((setoth (w := w) (m := m) 4 (.int .i64 (tn)) 5 (by omega)).trans a5)
  have A6 := hid ((setoth (w := w) (m := m) 4 (.int .i64 (tn)) 6 (by omega)).trans a6)
  obtain ⟨S, hS⟩ : ∃ S, ({ S0 with base := tn } : MdS) = S := ⟨_, rfl⟩
  have HS0 := hid hS
  have et : S0.tr = S.tr := by rw [← hS]
  have es : S0.sp = S.sp := by rw [← hS]
  rw [hS] at hM0
  rw [et] at a5 lc1 hbt A5
  rw [es] at a6 lc2 hbs A6
  obtain ⟨tl, htl⟩ : ∃ n, S.tr.length = n := ⟨_, rfl⟩
  obtain ⟨sl, hsl⟩ : ∃ n, S.sp.length = n := ⟨_, rfl⟩
  rw [htl] at a5 lc1 hbt A5
  rw [hsl] at a6 lc2 hbs A6
  have HTL := hid htl
  have HSL := hid hsl
  obtain ⟨L, hL⟩ : ∃ L, trAdv tn S.tr = L := ⟨_, rfl⟩
  obtain ⟨Q, hQ⟩ : ∃ Q, spAdv tn S.sp = Q := ⟨_, rfl⟩
  have HL := hid hL
  have HQ := hid hQ
  have HM0 := hid hM0
  clear a5' a6' hM0 h et es hS htl hsl hL hQ HH
  go_enter Tryz.func45, Tryz.ntmps45
  go_wp2
  have K0 := hid ((KeptBut.refl m w).set' 4 (.int .i64 (tn)))
  have lt0 : m < (w.setCell ⟨m, 4, none⟩ (.int .i64 (tn))).heap.size := by simpa using lt
  obtain ⟨w0, hw0⟩ : ∃ w0, w.setCell ⟨m, 4, none⟩ (.int .i64 (tn)) = w0 := ⟨_, rfl⟩
  rw [hw0] at HM0 K0 lt0 A5 A6 ⊢
  clear hw0 lt
  have HH := hid HM0.out
  have lt := lt0
  have L5 : Hid (LAt w0 0 (.slice ao1 tl cap1) tl (srow S.tr)) := hid (by
    obtain ⟨v, h1, h2⟩ := HM0.out.rd.l5
    rw [A5.out] at h1
    obtain rfl := Option.some.inj h1
    rw [HTL.out] at h2
    exact h2)
  have L6 : Hid (LAt w0 0 (.slice ao2 sl cap2) sl (qrow S.sp)) := hid (by
    obtain ⟨v, h1, h2⟩ := HM0.out.rd.l6
    rw [A6.out] at h1
    obtain rfl := Option.some.inj h1
    rw [HSL.out] at h2
    exact h2)
  go_loopw [5, 28] (fun v x wr => ∃ (i : Nat) (xs : List (Nat × Nat × Nat)), x = .int .i64 (i) ∧ i ≤ tl ∧ xs ++ trAdv tn (S.tr.drop i) = L ∧ xs.length ≤ i ∧ wr.ownsRow w0.heap.size 84 3 v xs.length (srow xs) ∧ Below w0.heap.size w0 wr) (fun _ x _ => tl - (intOf x).toNat)
  case atStart => exact ⟨0, [], rfl, by omega, HL.out, by simp, ⟨rfl, Or.inl ⟨rfl, rfl⟩⟩, by (repeat (first | with_reducible exact Below.rf _ | with_reducible exact World.below_ext _ _ | with_reducible refine Below.ex ?_ _ | with_reducible refine Below.al ?_ _ | with_reducible refine Below.setCell ?_ (by simp) _ | with_reducible refine Below.drew ?_))⟩
  case round =>
    obtain ⟨i, xs, rfl, hi, heq, hxl, hown, hB⟩ := hrel
    have HB := hid hB
    have HOWN := hid hown
    have sb := hB.size
    by_cases hlt : i < tl
    · have hkl : i < S.tr.length := by rw [HTL.out]; exact hlt
      have hx : S.tr[i]? = some S.tr[i] := List.getElem?_eq_getElem hkl
      rw [List.drop_eq_getElem_cons hkl] at heq
      have hxb := HH.out.rd.bt.2 _ (List.getElem_mem hkl)
      generalize S.tr[i] = x at hx heq hxb
      obtain ⟨y0, y1, y2⟩ := srow_at _ i x hx
      obtain ⟨ao', cap', e1, -, e2⟩ := L5.out.below hB
      simp only [Value.slice.injEq, true_and] at e1
      obtain ⟨rfl, rfl⟩ := e1
      rcases e2 with e2 | ⟨bb, rfl, hb1, hb2, hcc⟩
      · omega
      have p0 := hcc _ _ y0
      have p1 := hcc _ _ y1
      have p2 := hcc _ _ y2
      rw [Nat.mul_comm 3] at p0 p1 p2
      simp only [trAdv] at heq
      clear hx hkl y0 y1 y2 hcc hB hown a5 a6 c4
      by_cases h2 : tn ≤ x.2.2
      · have b2 : decide (tn ≤ x.2.2) = true := decide_eq_true h2
        rw [if_pos h2] at heq
        have HE := hid heq
        clear heq
        go_wp2_with (at_builtin; refine hold ?_)
        unfold Hid
        refine wp_app rfl _ _ 27 rfl w0.heap.size 84 (.agg #[.int .i64 (0), .int .i64 (0), .int .i64 (0)]) 3 24 Tryz.underlying27 (by kernel_rfl) rfl (by decide) _ (List.length xs) (srow xs) rfl (ownsRow_below HOWN.out (by (repeat (first | with_reducible exact Below.rf _ | with_reducible exact World.below_ext _ _ | with_reducible refine Below.ex ?_ _ | with_reducible refine Below.al ?_ _ | with_reducible refine Below.setCell ?_ (by simp) _ | with_reducible refine Below.drew ?_)))) _ 0 1 1 [.int .i64 (x.1), .int .i64 (x.2.1), .int .i64 (x.2.2)] rfl rfl ?_ (by simp [Value.oneCell']) (by omega) (by omega) ?_ ?_
        · intro j u hj
          have hj2 := (List.getElem?_eq_some_iff.1 hj).1
          simp at hj2
          rcases (by omega : j = 0 ∨ j = 1 ∨ j = 2) with rfl | rfl | rfl <;> simp at hj <;> subst hj <;> simp [go_sem, ↓IntWalk.iteOmega]
        · simp; omega
        intro v' w5 ho5 hb5
        have HO5 := hid ho5
        have HB5 := hid (HB.out.trans (Below.trans (by (refine Below.mono (B := (World.heap _).size) ?_ sb; (repeat (first | with_reducible exact Below.rf _ | with_reducible exact World.below_ext _ _ | with_reducible refine Below.ex ?_ _ | with_reducible refine Below.al ?_ _ | with_reducible refine Below.setCell ?_ (by simp) _ | with_reducible refine Below.drew ?_)))) hb5))
        clear ho5 hb5
        go_wp2
        go_roundw
        case rel =>
          refine ⟨i + 1, xs ++ [x], by go_num, by omega, ?_, by simp; omega, ?_, HB5.out⟩
          · rw [List.append_assoc, List.singleton_append]; exact HE.out
          · rw [List.length_append, srow_app]; exact HO5.out
        case measure => simp [intOf]; omega
      · have b2 : decide (tn ≤ x.2.2) = false := decide_eq_false h2
        rw [if_neg h2] at heq
        have HE := hid heq
        clear heq
        go_wp2
        go_roundw
        case rel => exact ⟨i + 1, xs, by go_num, by omega, HE.out, by omega, ownsRow_below HOWN.out (by (repeat (first | with_reducible exact Below.rf _ | with_reducible exact World.below_ext _ _ | with_reducible refine Below.ex ?_ _ | with_reducible refine Below.al ?_ _ | with_reducible refine Below.setCell ?_ (by simp) _ | with_reducible refine Below.drew ?_))), HB.out.trans (by (refine Below.mono (B := (World.heap _).size) ?_ sb; (repeat (first | with_reducible exact Below.rf _ | with_reducible exact World.below_ext _ _ | with_reducible refine Below.ex ?_ _ | with_reducible refine Below.al ?_ _ | with_reducible refine Below.setCell ?_ (by simp) _ | with_reducible refine Below.drew ?_))))⟩
        case measure => simp [intOf]; omega
    · have hnil : S.tr.drop i = [] := List.drop_eq_nil_of_le (by rw [HTL.out]; omega)
      rw [hnil] at heq
      simp only [trAdv, List.append_nil] at heq
      subst heq
      obtain ⟨ao8, cap8, rfl⟩ := own_val hown
      have a6 : _ := World.cell?_of_block (hB.block m lt) |>.trans A6.out
      have lt2 : m < _ := Nat.lt_of_lt_of_le lt sb
      have HB1 := hid hB
      have HOWN1 := hid hown
      clear hB hown a5
      go_wp2
      obtain ⟨w1, rfl⟩ : ∃ w1, w1 = wr := ⟨wr, rfl⟩
      go_loopw [8, 46] (fun v x wz => ∃ (j : Nat) (ys : List (Nat × Nat × Nat × Nat)), x = .int .i64 (j) ∧ j ≤ sl ∧ ys ++ spAdv tn (S.sp.drop j) = Q ∧ ys.length ≤ j ∧ wz.ownsRow w1.heap.size 86 4 v ys.length (qrow ys) ∧ Below w1.heap.size w1 wz) (fun _ x _ => sl - (intOf x).toNat)
      case atStart => exact ⟨0, [], rfl, by omega, HQ.out, by simp, ⟨rfl, Or.inl ⟨rfl, rfl⟩⟩, Below.rf _⟩
      case round =>
        clear a6 HB HOWN
        obtain ⟨j, ys, rfl, hj, heq, hyl, hown, hB⟩ := hrel
        have HB := hid hB
        have HOWN := hid hown
        have hBw : Below w0.heap.size w0 wr := HB1.out.trans (hB.mono sb)
        have HBW := hid hBw
        have sb1 := sb
        replace sb := hB.size
        by_cases hlt2 : j < sl
        · have hkl : j < S.sp.length := by rw [HSL.out]; exact hlt2
          have hx : S.sp[j]? = some S.sp[j] := List.getElem?_eq_getElem hkl
          rw [List.drop_eq_getElem_cons hkl] at heq
          have hxb := HH.out.rd.bs.2 _ (List.getElem_mem hkl)
          generalize S.sp[j] = x at hx heq hxb
          obtain ⟨y0, y1, y2, y3⟩ := qrow_at _ j x hx
          obtain ⟨ao', cap', e1, -, e2⟩ := L6.out.below hBw
          simp only [Value.slice.injEq, true_and] at e1
          obtain ⟨rfl, rfl⟩ := e1
          rcases e2 with e2 | ⟨bb, rfl, hb1, hb2, hcc⟩
          · omega
          have p0 := hcc _ _ y0
          have p1 := hcc _ _ y1
          have p2 := hcc _ _ y2
          have p3 := hcc _ _ y3
          rw [Nat.mul_comm 4] at p0 p1 p2 p3
          simp only [spAdv] at heq
          clear hx hkl y0 y1 y2 y3 hcc hB hown hBw
          by_cases h1 : x.2.2.1 < tn
          · have es : spAdv1 tn x = (x.1, x.2.1, tn, x.2.2.2) := if_pos h1
            simp only [es] at heq
            have b2 : decide (x.2.2.1 < tn) = true := decide_eq_true h1
            clear es
            by_cases h3 : tn < x.2.2.2
            · rw [if_pos h3] at heq
              have b3 : decide (tn < x.2.2.2) = true := decide_eq_true h3
              have HE := hid heq
              clear heq
              go_wp2_with (at_builtin; refine hold ?_)
              unfold Hid
              refine wp_app rfl _ _ 28 rfl w1.heap.size 86 (.agg #[.int .i64 (0), .int .i64 (0), .int .i64 (0), .int .i64 (0)]) 4 32 Tryz.underlying28 (by kernel_rfl) rfl (by decide) _ (List.length ys) (qrow ys) rfl (ownsRow_below HOWN.out (by (repeat (first | with_reducible exact Below.rf _ | with_reducible exact World.below_ext _ _ | with_reducible refine Below.ex ?_ _ | with_reducible refine Below.al ?_ _ | with_reducible refine Below.setCell ?_ (by simp) _ | with_reducible refine Below.drew ?_)))) _ 0 1 1 [.int .i64 (x.1), .int .i64 (x.2.1), .int .i64 (tn), .int .i64 (x.2.2.2)] rfl rfl ?_ (by simp [Value.oneCell']) (by omega) (by omega) ?_ ?_
              · intro j u hj
                have hj2 := (List.getElem?_eq_some_iff.1 hj).1
                simp at hj2
                rcases (by omega : j = 0 ∨ j = 1 ∨ j = 2 ∨ j = 3) with rfl | rfl | rfl | rfl <;> simp at hj <;> subst hj <;> simp [go_sem, ↓IntWalk.iteOmega]
              · simp; omega
              intro v' w5 ho5 hb5
              have HO5 := hid ho5
              have HB5 := hid (HB.out.trans (Below.trans (by (refine Below.mono (B := (World.heap _).size) ?_ sb; (repeat (first | with_reducible exact Below.rf _ | with_reducible exact World.below_ext _ _ | with_reducible refine Below.ex ?_ _ | with_reducible refine Below.al ?_ _ | with_reducible refine Below.setCell ?_ (by simp) _ | with_reducible refine Below.drew ?_)))) hb5))
              clear ho5 hb5
              go_wp2
              go_roundw
              case rel =>
                refine ⟨j + 1, ys ++ [(x.1, x.2.1, tn, x.2.2.2)], by go_num, by omega, ?_, by simp; omega, ?_, HB5.out⟩
                · rw [List.append_assoc, List.singleton_append]; exact HE.out
                · rw [List.length_append, qrow_app]; exact HO5.out
              case measure => simp [intOf]; omega
            · rw [if_neg h3] at heq
              have b3 : decide (tn < x.2.2.2) = false := decide_eq_false h3
              have HE := hid heq
              clear heq
              go_wp2
              go_roundw
              case rel => exact ⟨j + 1, ys, by go_num, by omega, HE.out, by omega, ownsRow_below HOWN.out (by (repeat (first | with_reducible exact Below.rf _ | with_reducible exact World.below_ext _ _ | with_reducible refine Below.ex ?_ _ | with_reducible refine Below.al ?_ _ | with_reducible refine Below.setCell ?_ (by simp) _ | with_reducible refine Below.drew ?_))), HB.out.trans (by (refine Below.mono (B := (World.heap _).size) ?_ sb; (repeat (first | with_reducible exact Below.rf _ | with_reducible exact World.below_ext _ _ | with_reducible refine Below.ex ?_ _ | with_reducible refine Below.al ?_ _ | with_reducible refine Below.setCell ?_ (by simp) _ | with_reducible refine Below.drew ?_))))⟩
              case measure => simp [intOf]; omega
          · have es : spAdv1 tn x = x := if_neg h1
            simp only [es] at heq
            have b2 : decide (x.2.2.1 < tn) = false := decide_eq_false h1
            clear es
            by_cases h3 : x.2.2.1 < x.2.2.2
            · rw [if_pos h3] at heq
              have b3 : decide (x.2.2.1 < x.2.2.2) = true := decide_eq_true h3
              have HE := hid heq
              clear heq
              go_wp2_with (at_builtin; refine hold ?_)
              unfold Hid
              refine wp_app rfl _ _ 28 rfl w1.heap.size 86 (.agg #[.int .i64 (0), .int .i64 (0), .int .i64 (0), .int .i64 (0)]) 4 32 Tryz.underlying28 (by kernel_rfl) rfl (by decide) _ (List.length ys) (qrow ys) rfl (ownsRow_below HOWN.out (by (repeat (first | with_reducible exact Below.rf _ | with_reducible exact World.below_ext _ _ | with_reducible refine Below.ex ?_ _ | with_reducible refine Below.al ?_ _ | with_reducible refine Below.setCell ?_ (by simp) _ | with_reducible refine Below.drew ?_)))) _ 0 1 1 [.int .i64 (x.1), .int .i64 (x.2.1), .int .i64 (x.2.2.1), .int .i64 (x.2.2.2)] rfl rfl ?_ (by simp [Value.oneCell']) (by omega) (by omega) ?_ ?_
              · intro j u hj
                have hj2 := (List.getElem?_eq_some_iff.1 hj).1
                simp at hj2
                rcases (by omega : j = 0 ∨ j = 1 ∨ j = 2 ∨ j = 3) with rfl | rfl | rfl | rfl <;> simp at hj <;> subst hj <;> simp [go_sem, ↓IntWalk.iteOmega]
              · simp; omega
              intro v' w5 ho5 hb5
              have HO5 := hid ho5
              have HB5 := hid (HB.out.trans (Below.trans (by (refine Below.mono (B := (World.heap _).size) ?_ sb; (repeat (first | with_reducible exact Below.rf _ | with_reducible exact World.below_ext _ _ | with_reducible refine Below.ex ?_ _ | with_reducible refine Below.al ?_ _ | with_reducible refine Below.setCell ?_ (by simp) _ | with_reducible refine Below.drew ?_)))) hb5))
              clear ho5 hb5
              go_wp2
              go_roundw
              case rel =>
                refine ⟨j + 1, ys ++ [x], by go_num, by omega, ?_, by simp; omega, ?_, HB5.out⟩
                · rw [List.append_assoc, List.singleton_append]; exact HE.out
                · rw [List.length_append, qrow_app]; exact HO5.out
              case measure => simp [intOf]; omega
            · rw [if_neg h3] at heq
              have b3 : decide (x.2.2.1 < x.2.2.2) = false := decide_eq_false h3
              have HE := hid heq
              clear heq
              go_wp2
              go_roundw
              case rel => exact ⟨j + 1, ys, by go_num, by omega, HE.out, by omega, ownsRow_below HOWN.out (by (repeat (first | with_reducible exact Below.rf _ | with_reducible exact World.below_ext _ _ | with_reducible refine Below.ex ?_ _ | with_reducible refine Below.al ?_ _ | with_reducible refine Below.setCell ?_ (by simp) _ | with_reducible refine Below.drew ?_))), HB.out.trans (by (refine Below.mono (B := (World.heap _).size) ?_ sb; (repeat (first | with_reducible exact Below.rf _ | with_reducible exact World.below_ext _ _ | with_reducible refine Below.ex ?_ _ | with_reducible refine Below.al ?_ _ | with_reducible refine Below.setCell ?_ (by simp) _ | with_reducible refine Below.drew ?_))))⟩
              case measure => simp [intOf]; omega
        · have hnil : S.sp.drop j = [] := List.drop_eq_nil_of_le (by rw [HSL.out]; omega)
          rw [hnil] at heq
          simp only [spAdv, List.append_nil] at heq
          subst heq
          obtain ⟨ao9, cap9, rfl⟩ := own_val hown
          have a5' := cell_kq hBw lt A5.out
          have a6' := cell_kq hBw lt A6.out
          have f5 := froz_kq hBw lt (HH.out.fz 5 (by omega))
          have f6 := froz_kq hBw lt (HH.out.fz 6 (by omega))
          have lt3 := Nat.lt_of_lt_of_le lt hBw.size
          have bx : xs.length ≤ 3000 ∧ ∀ x, x ∈ xs → x.1 < 6 ∧ x.2.1 < 150 ∧ x.2.2 ≤ 2000000000 := ⟨by omega, fun x hx => HH.out.rd.bt.2 x (trAdv_mem tn S.tr x (HL.out ▸ hx)).1⟩
          have by2 : ys.length ≤ 3000 ∧ ∀ x, x ∈ ys → x.1 < 6 ∧ x.2.1 < 150 ∧ x.2.2.1 ≤ 2000000000 ∧ x.2.2.2 ≤ 1099511627776 := ⟨by omega, fun x hx => spAdv_bd tn S.sp (by omega) HH.out.rd.bs.2 x (HQ.out ▸ hx)⟩
          have M1 := (HH.out.below hBw).setT (tr := xs) (v := .slice ao8 xs.length cap8) ((LAz.own HOWN1.out HH.out.gf).below hB) bx
          have M2 := M1.setP (sp := ys) (v := .slice ao9 ys.length cap9) ((LAz.own hown (fun j hj => HH.out.gf j (by omega))).kept HH.out.gm ((KeptBut.refl _ _).set' _ _)) by2
          have HM2 := hid M2
          clear M1 M2 hown hB hBw bx by2
          go_wp2
          go_ret
          refine ⟨?_, ?_, ?_⟩
          · rw [MdS.advance_yes (by omega)]
            rfl
          · rw [show (S0.advance tn).2 = { S with tr := xs, sp := ys } by
              have e1 := HL.out
              have e2 := HQ.out
              rw [← HS0.out] at e1 e2
              simp only at e1 e2
              rw [MdS.advance_yes (by omega), ← HS0.out]
              simp only [MdS.adv, e1, e2]]
            exact HM2.out
          · exact (K0.out.trans (KeptBut.of_below (B := (World.heap _).size) HBW.out (Nat.le_refl _))).trans (by (repeat (first | with_reducible exact KeptBut.refl _ _ | with_reducible refine KeptBut.ex ?_ _ | with_reducible refine KeptBut.al ?_ _ | with_reducible refine KeptBut.set' ?_ _ _)))
end Go.Proofs.Qxb6500717aGreat
