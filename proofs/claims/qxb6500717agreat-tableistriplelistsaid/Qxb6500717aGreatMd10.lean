/-
  The model: Truncate.
-/
import Derived.Test.Qxb6500717aGreatMd9
namespace Go.Proofs.Qxb6500717aGreat
open Go.RowKit
set_option linter.unusedSimpArgs false
set_option linter.unusedVariables false
set_option maxRecDepth 20000
set_option maxHeartbeats 4000000

def trCut (r t : Nat) : List (Nat × Nat × Nat) → List (Nat × Nat × Nat)
  | [] => []
  | x :: l => if x.1 ≠ r ∨ x.2.2 < t then x :: trCut r t l else trCut r t l
def spCut1 (r t : Nat) (x : Nat × Nat × Nat × Nat) : Nat × Nat × Nat × Nat := if x.1 = r ∧ t < x.2.2.2 then (x.1, x.2.1, x.2.2.1, t) else x
def spCut (r t : Nat) : List (Nat × Nat × Nat × Nat) → List (Nat × Nat × Nat × Nat)
  | [] => []
  | x :: l => if (spCut1 r t x).2.2.1 < (spCut1 r t x).2.2.2 then spCut1 r t x :: spCut r t l else spCut r t l
def MdS.cut (S : MdS) (r t : Nat) : MdS := { S with tr := trCut r t S.tr, sp := spCut r t S.sp }
def MdS.trunc (S : MdS) (r t : Nat) : Int × MdS := ((S.tr.length : Int) + S.sp.length - ((S.cut r t).tr.length + (S.cut r t).sp.length), S.cut r t)

theorem trCut_len (r t : Nat) (l : List (Nat × Nat × Nat)) : (trCut r t l).length ≤ l.length := by
  induction l with
  | nil => simp [trCut]
  | cons x l ih =>
    simp only [trCut]
    split <;> simp <;> omega
theorem trCut_mem (r t : Nat) (l : List (Nat × Nat × Nat)) : ∀ x, x ∈ trCut r t l → x ∈ l ∧ (x.1 ≠ r ∨ x.2.2 < t) := by
  induction l with
  | nil => simp [trCut]
  | cons y l ih =>
    intro x hx
    simp only [trCut] at hx
    split at hx
    · next h =>
      rcases List.mem_cons.1 hx with rfl | hx
      · exact ⟨List.mem_cons_self, h⟩
      · exact ⟨List.mem_cons_of_mem _ (ih x hx).1, (ih x hx).2⟩
    · exact ⟨List.mem_cons_of_mem _ (ih x hx).1, (ih x hx).2⟩
theorem spCut_len (r t : Nat) (l : List (Nat × Nat × Nat × Nat)) : (spCut r t l).length ≤ l.length := by
  induction l with
  | nil => simp [spCut]
  | cons x l ih =>
    simp only [spCut]
    split <;> simp <;> omega
theorem spCut_bd (r t : Nat) (l : List (Nat × Nat × Nat × Nat)) (h : ∀ x, x ∈ l → x.1 < 6 ∧ x.2.1 < 150 ∧ x.2.2.1 ≤ 2000000000 ∧ x.2.2.2 ≤ 1099511627776) : ∀ x, x ∈ spCut r t l → x.1 < 6 ∧ x.2.1 < 150 ∧ x.2.2.1 ≤ 2000000000 ∧ x.2.2.2 ≤ 1099511627776 := by
  induction l with
  | nil => simp [spCut]
  | cons y l ih =>
    intro x hx
    have hy := h y List.mem_cons_self
    have ih := ih (fun z hz => h z (List.mem_cons_of_mem _ hz))
    simp only [spCut] at hx
    split at hx
    · rcases List.mem_cons.1 hx with rfl | hx
      · unfold spCut1
        split
        · simp only; omega
        · exact hy
      · exact ih x hx
    · exact ih x hx

def mtruncPost (m : Nat) (X : Int × MdS) (V : MV) (w : World) (e : Ending) (w' : World) : Prop :=
  e = .returned (.int .i64 (X.1)) ∧ MdX w' m X.2 V ∧ KeptBut m w w'

theorem mtrunc_any (m : Nat) (S : MdS) (V : MV) (r : Nat) (t : Int) (w : World) (h : MdX w m S V) (hr : r < S.nr) (ht : t ≤ 9223372036854775807) : Calls Tryz.prog 50 #[.pointer (some ⟨m, 0, none⟩), .int .i64 (r), .int .i64 (t)] w (mtruncPost m (S.trunc r (max t (S.base : Int)).toNat) V w) := by
  have HH := hid h
  obtain ⟨v5, a5, b5⟩ := h.rd.l5
  obtain ⟨v6, a6, b6⟩ := h.rd.l6
  have lt := h.rd.lt
  have c4 := h.rd.c4
  have hbt := h.rd.bt.1
  have hbs := h.rd.bs.1
  have hbn := h.rd.bn
  have HELD := hid (mheld_any m S w h.rd)
  obtain ⟨tl, htl⟩ : ∃ n, S.tr.length = n := ⟨_, rfl⟩
  obtain ⟨sl, hsl⟩ : ∃ n, S.sp.length = n := ⟨_, rfl⟩
  rw [htl] at b5 hbt HELD
  rw [hsl] at b6 hbs HELD
  have HTL := hid htl
  have HSL := hid hsl
  have L5 := hid b5
  have L6 := hid b6
  obtain ⟨ao1, cap1, rfl, lc1, -⟩ := b5
  obtain ⟨ao2, cap2, rfl, lc2, -⟩ := b6
  have A6 := hid a6
  have A5 := hid a5
  clear h htl hsl
  by_cases hlt : t < (S.base : Int)
  · rw [show (max t (S.base : Int)).toNat = S.base by omega]
    obtain ⟨L, hL⟩ : ∃ L, trCut r S.base S.tr = L := ⟨_, rfl⟩
    obtain ⟨Q, hQ⟩ : ∃ Q, spCut r S.base S.sp = Q := ⟨_, rfl⟩
    have HL := hid hL
    have HQ := hid hQ
    clear hL hQ
    go_enter Tryz.func50, Tryz.ntmps50
    go_wp2_with (go_at_call 58; refine HELD.out.mono ?_; rintro e w' ⟨rfl, z1, rfl⟩)
    go_loopw [8, 31] (fun v x wr => ∃ (i : Nat) (xs : List (Nat × Nat × Nat)), x = .int .i64 (i) ∧ i ≤ tl ∧ xs ++ trCut r S.base (S.tr.drop i) = L ∧ xs.length ≤ i ∧ wr.ownsRow w.heap.size 84 3 v xs.length (srow xs) ∧ Below w.heap.size w wr) (fun _ x _ => tl - (intOf x).toNat)
    case atStart => exact ⟨0, [], rfl, by omega, HL.out, by simp, ⟨rfl, Or.inl ⟨rfl, rfl⟩⟩, by (repeat (first | with_reducible exact Below.rf _ | with_reducible exact World.below_ext _ _ | with_reducible refine Below.ex ?_ _ | with_reducible refine Below.al ?_ _ | with_reducible refine Below.setCell ?_ (by simp) _ | with_reducible refine Below.drew ?_))⟩
    case round =>
      obtain ⟨i, xs, rfl, hi, heq, hxl, hown, hB⟩ := hrel
      have HB := hid hB
      have HOWN := hid hown
      have sb := hB.size
      by_cases hlt : i < tl
      · have hkl : i < S.tr.length := by rw [HTL.out]; exact hlt
        have hx : S.tr[i]? = some S.tr[i] := List.getElem?_eq_getElem hkl
        rw [List.drop_eq_getElem_cons hkl] at heq
        have hxb := HH.out.rd.bt.2 _ (List.getElem_mem hkl)
        generalize S.tr[i] = x at hx heq hxb
        obtain ⟨y0, y1, y2⟩ := srow_at _ i x hx
        obtain ⟨ao', cap', e1, -, e2⟩ := L5.out.below hB
        simp only [Value.slice.injEq, true_and] at e1
        obtain ⟨rfl, rfl⟩ := e1
        rcases e2 with e2 | ⟨bb, rfl, hb1, hb2, hcc⟩
        · omega
        have p0 := hcc _ _ y0
        have p1 := hcc _ _ y1
        have p2 := hcc _ _ y2
        rw [Nat.mul_comm 3] at p0 p1 p2
        simp only [trCut] at heq
        clear hx hkl y0 y1 y2 hcc hB hown a5 a6 c4
        by_cases h1 : x.1 = r
        · have b1 : ((x.1 : Int) == (r : Int)) = true := by simp [h1]
          have b1' : ((x.1 : Int) != (r : Int)) = false := by simp [h1]
          by_cases h2 : x.2.2 < S.base
          · have b2 : decide (x.2.2 < S.base) = true := decide_eq_true h2
            rw [if_pos (Or.inr h2)] at heq
            have HE := hid heq
            clear heq h1
            go_wp2_with (at_builtin; refine hold ?_)
            unfold Hid
            refine wp_app rfl _ _ 27 rfl w.heap.size 84 (.agg #[.int .i64 (0), .int .i64 (0), .int .i64 (0)]) 3 24 Tryz.underlying27 (by kernel_rfl) rfl (by decide) _ (List.length xs) (srow xs) rfl (ownsRow_below HOWN.out (by (repeat (first | with_reducible exact Below.rf _ | with_reducible exact World.below_ext _ _ | with_reducible refine Below.ex ?_ _ | with_reducible refine Below.al ?_ _ | with_reducible refine Below.setCell ?_ (by simp) _ | with_reducible refine Below.drew ?_)))) _ 0 1 1 [.int .i64 (x.1), .int .i64 (x.2.1), .int .i64 (x.2.2)] rfl rfl ?_ (by simp [Value.oneCell']) (by omega) (by omega) ?_ ?_
            · intro j u hj
              have hj2 := (List.getElem?_eq_some_iff.1 hj).1
              simp at hj2
              rcases (by omega : j = 0 ∨ j = 1 ∨ j = 2) with rfl | rfl | rfl <;> simp at hj <;> subst hj <;> simp [go_sem, ↓IntWalk.iteOmega]
            · simp; omega
            intro v' w5 ho5 hb5
            have HO5 := hid ho5
            have HB5 := hid (HB.out.trans (Below.trans (by (refine Below.mono (B := (World.heap _).size) ?_ sb; (repeat (first | with_reducible exact Below.rf _ | with_reducible exact World.below_ext _ _ | with_reducible refine Below.ex ?_ _ | with_reducible refine Below.al ?_ _ | with_reducible refine Below.setCell ?_ (by simp) _ | with_reducible refine Below.drew ?_)))) hb5))
            clear ho5 hb5
            go_wp2
            go_roundw
            case rel =>
              refine ⟨i + 1, xs ++ [x], by go_num, by omega, ?_, by simp; omega, ?_, HB5.out⟩
              · rw [List.append_assoc, List.singleton_append]; exact HE.out
              · rw [List.length_append, srow_app]; exact HO5.out
            case measure => simp [intOf]; omega
          · have b2 : decide (x.2.2 < S.base) = false := decide_eq_false h2
            rw [if_neg (by omega)] at heq
            have HE := hid heq
            clear heq h1
            go_wp2
            go_roundw
            case rel => exact ⟨i + 1, xs, by go_num, by omega, HE.out, by omega, ownsRow_below HOWN.out (by (repeat (first | with_reducible exact Below.rf _ | with_reducible exact World.below_ext _ _ | with_reducible refine Below.ex ?_ _ | with_reducible refine Below.al ?_ _ | with_reducible refine Below.setCell ?_ (by simp) _ | with_reducible refine Below.drew ?_))), HB.out.trans (by (refine Below.mono (B := (World.heap _).size) ?_ sb; (repeat (first | with_reducible exact Below.rf _ | with_reducible exact World.below_ext _ _ | with_reducible refine Below.ex ?_ _ | with_reducible refine Below.al ?_ _ | with_reducible refine Below.setCell ?_ (by simp) _ | with_reducible refine Below.drew ?_))))⟩
            case measure => simp [intOf]; omega
        · have b1 : ((x.1 : Int) == (r : Int)) = false := by simp; omega
          have b1' : ((x.1 : Int) != (r : Int)) = true := by simp; omega
          rw [if_pos (Or.inl h1)] at heq
          have HE := hid heq
          clear heq h1
          go_wp2_with (at_builtin; refine hold ?_)
          unfold Hid
          refine wp_app rfl _ _ 27 rfl w.heap.size 84 (.agg #[.int .i64 (0), .int .i64 (0), .int .i64 (0)]) 3 24 Tryz.underlying27 (by kernel_rfl) rfl (by decide) _ (List.length xs) (srow xs) rfl (ownsRow_below HOWN.out (by (repeat (first | with_reducible exact Below.rf _ | with_reducible exact World.below_ext _ _ | with_reducible refine Below.ex ?_ _ | with_reducible refine Below.al ?_ _ | with_reducible refine Below.setCell ?_ (by simp) _ | with_reducible refine Below.drew ?_)))) _ 0 1 1 [.int .i64 (x.1), .int .i64 (x.2.1), .int .i64 (x.2.2)] rfl rfl ?_ (by simp [Value.oneCell']) (by omega) (by omega) ?_ ?_
          · intro j u hj
            have hj2 := (List.getElem?_eq_some_iff.1 hj).1
            simp at hj2
            rcases (by omega : j = 0 ∨ j = 1 ∨ j = 2) with rfl | rfl | rfl <;> simp at hj <;> subst hj <;> simp [go_sem, ↓IntWalk.iteOmega]
          · simp; omega
          intro v' w5 ho5 hb5
          have HO5 := hid ho5
          have HB5 := hid (HB.out.trans (Below.trans (by (refine Below.mono (B := (World.heap _).size) ?_ sb; (repeat (first | with_reducible exact Below.rf _ | with_reducible exact World.below_ext _ _ | with_reducible refine Below.ex ?_ _ | with_reducible refine Below.al ?_ _ | with_reducible refine Below.setCell ?_ (by simp) _ | with_reducible refine Below.drew ?_)))) hb5))
          clear ho5 hb5
          go_wp2
          go_roundw
          case rel =>
            refine ⟨i + 1, xs ++ [x], by go_num, by omega, ?_, by simp; omega, ?_, HB5.out⟩
            · rw [List.append_assoc, List.singleton_append]; exact HE.out
            · rw [List.length_append, srow_app]; exact HO5.out
          case measure => simp [intOf]; omega
      · have hnil : S.tr.drop i = [] := List.drop_eq_nil_of_le (by rw [HTL.out]; omega)
        rw [hnil] at heq
        simp only [trCut, List.append_nil] at heq
        subst heq
        obtain ⟨ao8, cap8, rfl⟩ := own_val hown
        have a6 : _ := World.cell?_of_block (hB.block m lt) |>.trans A6.out
        have lt2 : m < _ := Nat.lt_of_lt_of_le lt sb
        have HB1 := hid hB
        have HOWN1 := hid hown
        clear hB hown a5
        go_wp2
        obtain ⟨w1, rfl⟩ : ∃ w1, w1 = wr := ⟨wr, rfl⟩
        go_loopw [11, 55] (fun v x wz => ∃ (j : Nat) (ys : List (Nat × Nat × Nat × Nat)), x = .int .i64 (j) ∧ j ≤ sl ∧ ys ++ spCut r S.base (S.sp.drop j) = Q ∧ ys.length ≤ j ∧ wz.ownsRow w1.heap.size 86 4 v ys.length (qrow ys) ∧ Below w1.heap.size w1 wz) (fun _ x _ => sl - (intOf x).toNat)
        case atStart => exact ⟨0, [], rfl, by omega, HQ.out, by simp, ⟨rfl, Or.inl ⟨rfl, rfl⟩⟩, Below.rf _⟩
        case round =>
          clear a6 HB HOWN
          obtain ⟨j, ys, rfl, hj, heq, hyl, hown, hB⟩ := hrel
          have HB := hid hB
          have HOWN := hid hown
          have hBw : Below w.heap.size w wr := HB1.out.trans (hB.mono sb)
          have HBW := hid hBw
          have sb1 := sb
          replace sb := hB.size
          by_cases hlt2 : j < sl
          · have hkl : j < S.sp.length := by rw [HSL.out]; exact hlt2
            have hx : S.sp[j]? = some S.sp[j] := List.getElem?_eq_getElem hkl
            rw [List.drop_eq_getElem_cons hkl] at heq
            have hxb := HH.out.rd.bs.2 _ (List.getElem_mem hkl)
            generalize S.sp[j] = x at hx heq hxb
            obtain ⟨y0, y1, y2, y3⟩ := qrow_at _ j x hx
            obtain ⟨ao', cap', e1, -, e2⟩ := L6.out.below hBw
            simp only [Value.slice.injEq, true_and] at e1
            obtain ⟨rfl, rfl⟩ := e1
            rcases e2 with e2 | ⟨bb, rfl, hb1, hb2, hcc⟩
            · omega
            have p0 := hcc _ _ y0
            have p1 := hcc _ _ y1
            have p2 := hcc _ _ y2
            have p3 := hcc _ _ y3
            rw [Nat.mul_comm 4] at p0 p1 p2 p3
            simp only [spCut] at heq
            clear hx hkl y0 y1 y2 y3 hcc hB hown hBw
            by_cases h1 : x.1 = r ∧ S.base < x.2.2.2
            · have es : spCut1 r S.base x = (x.1, x.2.1, x.2.2.1, S.base) := if_pos h1
              simp only [es] at heq
              have b1 : ((x.1 : Int) == (r : Int)) = true := by simp [h1.1]
              have b2 : decide (S.base < x.2.2.2) = true := decide_eq_true h1.2
              have h12 := h1.2
              clear h1 es
              by_cases h3 : x.2.2.1 < S.base
              · rw [if_pos h3] at heq
                have b3 : decide (x.2.2.1 < S.base) = true := decide_eq_true h3
                have HE := hid heq
                clear heq
                go_wp2_with (at_builtin; refine hold ?_)
                unfold Hid
                refine wp_app rfl _ _ 28 rfl w1.heap.size 86 (.agg #[.int .i64 (0), .int .i64 (0), .int .i64 (0), .int .i64 (0)]) 4 32 Tryz.underlying28 (by kernel_rfl) rfl (by decide) _ (List.length ys) (qrow ys) rfl (ownsRow_below HOWN.out (by (repeat (first | with_reducible exact Below.rf _ | with_reducible exact World.below_ext _ _ | with_reducible refine Below.ex ?_ _ | with_reducible refine Below.al ?_ _ | with_reducible refine Below.setCell ?_ (by simp) _ | with_reducible refine Below.drew ?_)))) _ 0 1 1 [.int .i64 (x.1), .int .i64 (x.2.1), .int .i64 (x.2.2.1), .int .i64 (S.base)] rfl rfl ?_ (by simp [Value.oneCell']) (by omega) (by omega) ?_ ?_
                · intro j u hj
                  have hj2 := (List.getElem?_eq_some_iff.1 hj).1
                  simp at hj2
                  rcases (by omega : j = 0 ∨ j = 1 ∨ j = 2 ∨ j = 3) with rfl | rfl | rfl | rfl <;> simp at hj <;> subst hj <;> simp [go_sem, ↓IntWalk.iteOmega]
                · simp; omega
                intro v' w5 ho5 hb5
                have HO5 := hid ho5
                have HB5 := hid (HB.out.trans (Below.trans (by (refine Below.mono (B := (World.heap _).size) ?_ sb; (repeat (first | with_reducible exact Below.rf _ | with_reducible exact World.below_ext _ _ | with_reducible refine Below.ex ?_ _ | with_reducible refine Below.al ?_ _ | with_reducible refine Below.setCell ?_ (by simp) _ | with_reducible refine Below.drew ?_)))) hb5))
                clear ho5 hb5
                go_wp2
                go_roundw
                case rel =>
                  refine ⟨j + 1, ys ++ [(x.1, x.2.1, x.2.2.1, S.base)], by go_num, by omega, ?_, by simp; omega, ?_, HB5.out⟩
                  · rw [List.append_assoc, List.singleton_append]; exact HE.out
                  · rw [List.length_append, qrow_app]; exact HO5.out
                case measure => simp [intOf]; omega
              · rw [if_neg h3] at heq
                have b3 : decide (x.2.2.1 < S.base) = false := decide_eq_false h3
                have HE := hid heq
                clear heq
                go_wp2
                go_roundw
                case rel => exact ⟨j + 1, ys, by go_num, by omega, HE.out, by omega, ownsRow_below HOWN.out (by (repeat (first | with_reducible exact Below.rf _ | with_reducible exact World.below_ext _ _ | with_reducible refine Below.ex ?_ _ | with_reducible refine Below.al ?_ _ | with_reducible refine Below.setCell ?_ (by simp) _ | with_reducible refine Below.drew ?_))), HB.out.trans (by (refine Below.mono (B := (World.heap _).size) ?_ sb; (repeat (first | with_reducible exact Below.rf _ | with_reducible exact World.below_ext _ _ | with_reducible refine Below.ex ?_ _ | with_reducible refine Below.al ?_ _ | with_reducible refine Below.setCell ?_ (by simp) _ | with_reducible refine Below.drew ?_))))⟩
                case measure => simp [intOf]; omega
            · have es : spCut1 r S.base x = x := if_neg h1
              simp only [es] at heq
              clear es
              by_cases h3 : x.2.2.1 < x.2.2.2
              · rw [if_pos h3] at heq
                have b3 : decide (x.2.2.1 < x.2.2.2) = true := decide_eq_true h3
                have HE := hid heq
                clear heq
                by_cases h4 : x.1 = r
                · have b1 : ((x.1 : Int) == (r : Int)) = true := by simp [h4]
                  have h5 : ¬ (S.base < x.2.2.2) := fun h => h1 ⟨h4, h⟩
                  have b2 : decide (S.base < x.2.2.2) = false := decide_eq_false h5
                  clear h1 h4
                  go_wp2_with (at_builtin; refine hold ?_)
                  unfold Hid
                  refine wp_app rfl _ _ 28 rfl w1.heap.size 86 (.agg #[.int .i64 (0), .int .i64 (0), .int .i64 (0), .int .i64 (0)]) 4 32 Tryz.underlying28 (by kernel_rfl) rfl (by decide) _ (List.length ys) (qrow ys) rfl (ownsRow_below HOWN.out (by (repeat (first | with_reducible exact Below.rf _ | with_reducible exact World.below_ext _ _ | with_reducible refine Below.ex ?_ _ | with_reducible refine Below.al ?_ _ | with_reducible refine Below.setCell ?_ (by simp) _ | with_reducible refine Below.drew ?_)))) _ 0 1 1 [.int .i64 (x.1), .int .i64 (x.2.1), .int .i64 (x.2.2.1), .int .i64 (x.2.2.2)] rfl rfl ?_ (by simp [Value.oneCell']) (by omega) (by omega) ?_ ?_
                  · intro j u hj
                    have hj2 := (List.getElem?_eq_some_iff.1 hj).1
                    simp at hj2
                    rcases (by omega : j = 0 ∨ j = 1 ∨ j = 2 ∨ j = 3) with rfl | rfl | rfl | rfl <;> simp at hj <;> subst hj <;> simp [go_sem, ↓IntWalk.iteOmega]
                  · simp; omega
                  intro v' w5 ho5 hb5
                  have HO5 := hid ho5
                  have HB5 := hid (HB.out.trans (Below.trans (by (refine Below.mono (B := (World.heap _).size) ?_ sb; (repeat (first | with_reducible exact Below.rf _ | with_reducible exact World.below_ext _ _ | with_reducible refine Below.ex ?_ _ | with_reducible refine Below.al ?_ _ | with_reducible refine Below.setCell ?_ (by simp) _ | with_reducible refine Below.drew ?_)))) hb5))
                  clear ho5 hb5
                  go_wp2
                  go_roundw
                  case rel =>
                    refine ⟨j + 1, ys ++ [x], by go_num, by omega, ?_, by simp; omega, ?_, HB5.out⟩
                    · rw [List.append_assoc, List.singleton_append]; exact HE.out
                    · rw [List.length_append, qrow_app]; exact HO5.out
                  case measure => simp [intOf]; omega
                · have b1 : ((x.1 : Int) == (r : Int)) = false := by simp; omega
                  clear h1 h4
                  go_wp2_with (at_builtin; refine hold ?_)
                  unfold Hid
                  refine wp_app rfl _ _ 28 rfl w1.heap.size 86 (.agg #[.int .i64 (0), .int .i64 (0), .int .i64 (0), .int .i64 (0)]) 4 32 Tryz.underlying28 (by kernel_rfl) rfl (by decide) _ (List.length ys) (qrow ys) rfl (ownsRow_below HOWN.out (by (repeat (first | with_reducible exact Below.rf _ | with_reducible exact World.below_ext _ _ | with_reducible refine Below.ex ?_ _ | with_reducible refine Below.al ?_ _ | with_reducible refine Below.setCell ?_ (by simp) _ | with_reducible refine Below.drew ?_)))) _ 0 1 1 [.int .i64 (x.1), .int .i64 (x.2.1), .int .i64 (x.2.2.1), .int .i64 (x.2.2.2)] rfl rfl ?_ (by simp [Value.oneCell']) (by omega) (by omega) ?_ ?_
                  · intro j u hj
                    have hj2 := (List.getElem?_eq_some_iff.1 hj).1
                    simp at hj2
                    rcases (by omega : j = 0 ∨ j = 1 ∨ j = 2 ∨ j = 3) with rfl | rfl | rfl | rfl <;> simp at hj <;> subst hj <;> simp [go_sem, ↓IntWalk.iteOmega]
                  · simp; omega
                  intro v' w5 ho5 hb5
                  have HO5 := hid ho5
                  have HB5 := hid (HB.out.trans (Below.trans (by (refine Below.mono (B := (World.heap _).size) ?_ sb; (repeat (first | with_reducible exact Below.rf _ | with_reducible exact World.below_ext _ _ | with_reducible refine Below.ex ?_ _ | with_reducible refine Below.al ?_ _ | with_reducible refine Below.setCell ?_ (by simp) _ | with_reducible refine Below.drew ?_)))) hb5))
                  clear ho5 hb5
                  go_wp2
                  go_roundw
                  case rel =>
                    refine ⟨j + 1, ys ++ [x], by go_num, by omega, ?_, by simp; omega, ?_, HB5.out⟩
                    · rw [List.append_assoc, List.singleton_append]; exact HE.out
                    · rw [List.length_append, qrow_app]; exact HO5.out
                  case measure => simp [intOf]; omega
              · rw [if_neg h3] at heq
                have b3 : decide (x.2.2.1 < x.2.2.2) = false := decide_eq_false h3
                have HE := hid heq
                clear heq
                by_cases h4 : x.1 = r
                · have b1 : ((x.1 : Int) == (r : Int)) = true := by simp [h4]
                  have h5 : ¬ (S.base < x.2.2.2) := fun h => h1 ⟨h4, h⟩
                  have b2 : decide (S.base < x.2.2.2) = false := decide_eq_false h5
                  clear h1 h4
                  go_wp2
                  go_roundw
                  case rel => exact ⟨j + 1, ys, by go_num, by omega, HE.out, by omega, ownsRow_below HOWN.out (by (repeat (first | with_reducible exact Below.rf _ | with_reducible exact World.below_ext _ _ | with_reducible refine Below.ex ?_ _ | with_reducible refine Below.al ?_ _ | with_reducible refine Below.setCell ?_ (by simp) _ | with_reducible refine Below.drew ?_))), HB.out.trans (by (refine Below.mono (B := (World.heap _).size) ?_ sb; (repeat (first | with_reducible exact Below.rf _ | with_reducible exact World.below_ext _ _ | with_reducible refine Below.ex ?_ _ | with_reducible refine Below.al ?_ _ | with_reducible refine Below.setCell ?_ (by simp) _ | with_reducible refine Below.drew ?_))))⟩
                  case measure => simp [intOf]; omega
                · have b1 : ((x.1 : Int) == (r : Int)) = false := by simp; omega
                  clear h1 h4
                  go_wp2
                  go_roundw
                  case rel => exact ⟨j + 1, ys, by go_num, by omega, HE.out, by omega, ownsRow_below HOWN.out (by (repeat (first | with_reducible exact Below.rf _ | with_reducible exact World.below_ext _ _ | with_reducible refine Below.ex ?_ _ | with_reducible refine Below.al ?_ _ | with_reducible refine Below.setCell ?_ (by simp) _ | with_reducible refine Below.drew ?_))), HB.out.trans (by (refine Below.mono (B := (World.heap _).size) ?_ sb; (repeat (first | with_reducible exact Below.rf _ | with_reducible exact World.below_ext _ _ | with_reducible refine Below.ex ?_ _ | with_reducible refine Below.al ?_ _ | with_reducible refine Below.setCell ?_ (by simp) _ | with_reducible refine Below.drew ?_))))⟩
                  case measure => simp [intOf]; omega
          · have hnil : S.sp.drop j = [] := List.drop_eq_nil_of_le (by rw [HSL.out]; omega)
            rw [hnil] at heq
            simp only [spCut, List.append_nil] at heq
            subst heq
            obtain ⟨ao9, cap9, rfl⟩ := own_val hown
            have a5' := cell_kq hBw lt A5.out
            have a6' := cell_kq hBw lt A6.out
            have f5 := froz_kq hBw lt (HH.out.fz 5 (by omega))
            have f6 := froz_kq hBw lt (HH.out.fz 6 (by omega))
            have lt3 := Nat.lt_of_lt_of_le lt hBw.size
            have bx : xs.length ≤ 3000 ∧ ∀ x, x ∈ xs → x.1 < 6 ∧ x.2.1 < 150 ∧ x.2.2 ≤ 2000000000 := ⟨by omega, fun x hx => HH.out.rd.bt.2 x (trCut_mem r S.base S.tr x (HL.out ▸ hx)).1⟩
            have by2 : ys.length ≤ 3000 ∧ ∀ x, x ∈ ys → x.1 < 6 ∧ x.2.1 < 150 ∧ x.2.2.1 ≤ 2000000000 ∧ x.2.2.2 ≤ 1099511627776 := ⟨by omega, fun x hx => spCut_bd r S.base S.sp HH.out.rd.bs.2 x (HQ.out ▸ hx)⟩
            have M1 := (HH.out.below hBw).setT (tr := xs) (v := .slice ao8 xs.length cap8) ((LAz.own HOWN1.out HH.out.gf).below hB) bx
            have M2 := M1.setP (sp := ys) (v := .slice ao9 ys.length cap9) ((LAz.own hown (fun j hj => HH.out.gf j (by omega))).kept HH.out.gm ((KeptBut.refl _ _).set' _ _)) by2
            have HE1 := hid (mheld_any m { S with tr := xs, sp := ys } _ M2.rd)
            have HM2 := hid M2
            clear M1 M2 hown hB hBw bx by2
            go_wp2_with (go_at_call 58; refine HE1.out.mono ?_; rintro e w' ⟨rfl, z2, rfl⟩)
            go_ret
            refine ⟨?_, ?_, ?_⟩
            · simp only [MdS.trunc, MdS.cut]
              rw [HL.out, HQ.out, HTL.out, HSL.out]
              rfl
            · rw [show (S.trunc r S.base).2 = { S with tr := xs, sp := ys } by simp only [MdS.trunc, MdS.cut]; rw [HL.out, HQ.out]]
              exact HM2.out.below (by (repeat (first | with_reducible exact Below.rf _ | with_reducible exact World.below_ext _ _ | with_reducible refine Below.ex ?_ _ | with_reducible refine Below.al ?_ _ | with_reducible refine Below.setCell ?_ (by simp) _ | with_reducible refine Below.drew ?_)))
            · exact (KeptBut.of_below (B := (World.heap _).size) HBW.out (Nat.le_refl _)).trans (by (repeat (first | with_reducible exact KeptBut.refl _ _ | with_reducible refine KeptBut.ex ?_ _ | with_reducible refine KeptBut.al ?_ _ | with_reducible refine KeptBut.set' ?_ _ _)))
  · obtain ⟨tn, rfl⟩ := Int.eq_ofNat_of_zero_le (show 0 ≤ t by omega)
    rw [show (max (tn : Int) (S.base : Int)).toNat = tn by omega]
    obtain ⟨L, hL⟩ : ∃ L, trCut r tn S.tr = L := ⟨_, rfl⟩
    obtain ⟨Q, hQ⟩ : ∃ Q, spCut r tn S.sp = Q := ⟨_, rfl⟩
    have HL := hid hL
    have HQ := hid hQ
    clear hL hQ
    go_enter Tryz.func50, Tryz.ntmps50
    go_wp2_with (go_at_call 58; refine HELD.out.mono ?_; rintro e w' ⟨rfl, z1, rfl⟩)
    go_loopw [8, 31] (fun v x wr => ∃ (i : Nat) (xs : List (Nat × Nat × Nat)), x = .int .i64 (i) ∧ i ≤ tl ∧ xs ++ trCut r tn (S.tr.drop i) = L ∧ xs.length ≤ i ∧ wr.ownsRow w.heap.size 84 3 v xs.length (srow xs) ∧ Below w.heap.size w wr) (fun _ x _ => tl - (intOf x).toNat)
    case atStart => exact ⟨0, [], rfl, by omega, HL.out, by simp, ⟨rfl, Or.inl ⟨rfl, rfl⟩⟩, by (repeat (first | with_reducible exact Below.rf _ | with_reducible exact World.below_ext _ _ | with_reducible refine Below.ex ?_ _ | with_reducible refine Below.al ?_ _ | with_reducible refine Below.setCell ?_ (by simp) _ | with_reducible refine Below.drew ?_))⟩
    case round =>
      obtain ⟨i, xs, rfl, hi, heq, hxl, hown, hB⟩ := hrel
      have HB := hid hB
      have HOWN := hid hown
      have sb := hB.size
      by_cases hlt : i < tl
      · have hkl : i < S.tr.length := by rw [HTL.out]; exact hlt
        have hx : S.tr[i]? = some S.tr[i] := List.getElem?_eq_getElem hkl
        rw [List.drop_eq_getElem_cons hkl] at heq
        have hxb := HH.out.rd.bt.2 _ (List.getElem_mem hkl)
        generalize S.tr[i] = x at hx heq hxb
        obtain ⟨y0, y1, y2⟩ := srow_at _ i x hx
        obtain ⟨ao', cap', e1, -, e2⟩ := L5.out.below hB
        simp only [Value.slice.injEq, true_and] at e1
        obtain ⟨rfl, rfl⟩ := e1
        rcases e2 with e2 | ⟨bb, rfl, hb1, hb2, hcc⟩
        · omega
        have p0 := hcc _ _ y0
        have p1 := hcc _ _ y1
        have p2 := hcc _ _ y2
        rw [Nat.mul_comm 3] at p0 p1 p2
        simp only [trCut] at heq
        clear hx hkl y0 y1 y2 hcc hB hown a5 a6 c4
        by_cases h1 : x.1 = r
        · have b1 : ((x.1 : Int) == (r : Int)) = true := by simp [h1]
          have b1' : ((x.1 : Int) != (r : Int)) = false := by simp [h1]
          by_cases h2 : x.2.2 < tn
          · have b2 : decide (x.2.2 < tn) = true := decide_eq_true h2
            rw [if_pos (Or.inr h2)] at heq
            have HE := hid heq
            clear heq h1
            go_wp2_with (at_builtin; refine hold ?_)
            unfold Hid
            refine wp_app rfl _ _ 27 rfl w.heap.size 84 (.agg #[.int .i64 (0), .int .i64 (0), .int .i64 (0)]) 3 24 Tryz.underlying27 (by kernel_rfl) rfl (by decide) _ (List.length xs) (srow xs) rfl (ownsRow_below HOWN.out (by (repeat (first | with_reducible exact Below.rf _ | with_reducible exact World.below_ext _ _ | with_reducible refine Below.ex ?_ _ | with_reducible refine Below.al ?_ _ | with_reducible refine Below.setCell ?_ (by simp) _ | with_reducible refine Below.drew ?_)))) _ 0 1 1 [.int .i64 (x.1), .int .i64 (x.2.1), .int .i64 (x.2.2)] rfl rfl ?_ (by simp [Value.oneCell']) (by omega) (by omega) ?_ ?_
            · intro j u hj
              have hj2 := (List.getElem?_eq_some_iff.1 hj).1
              simp at hj2
              rcases (by omega : j = 0 ∨ j = 1 ∨ j = 2) with rfl | rfl | rfl <;> simp at hj <;> subst hj <;> simp [go_sem, ↓IntWalk.iteOmega]
            · simp; omega
            intro v' w5 ho5 hb5
            have HO5 := hid ho5
            have HB5 := hid (HB.out.trans (Below.trans (by (refine Below.mono (B := (World.heap _).size) ?_ sb; (repeat (first | with_reducible exact Below.rf _ | with_reducible exact World.below_ext _ _ | with_reducible refine Below.ex ?_ _ | with_reducible refine Below.al ?_ _ | with_reducible refine Below.setCell ?_ (by simp) _ | with_reducible refine Below.drew ?_)))) hb5))
            clear ho5 hb5
            go_wp2
            go_roundw
            case rel =>
              refine ⟨i + 1, xs ++ [x], by go_num, by omega, ?_, by simp; omega, ?_, HB5.out⟩
              · rw [List.append_assoc, List.singleton_append]; exact HE.out
              · rw [List.length_append, srow_app]; exact HO5.out
            case measure => simp [intOf]; omega
          · have b2 : decide (x.2.2 < tn) = false := decide_eq_false h2
            rw [if_neg (by omega)] at heq
            have HE := hid heq
            clear heq h1
            go_wp2
            go_roundw
            case rel => exact ⟨i + 1, xs, by go_num, by omega, HE.out, by omega, ownsRow_below HOWN.out (by (repeat (first | with_reducible exact Below.rf _ | with_reducible exact World.below_ext _ _ | with_reducible refine Below.ex ?_ _ | with_reducible refine Below.al ?_ _ | with_reducible refine Below.setCell ?_ (by simp) _ | with_reducible refine Below.drew ?_))), HB.out.trans (by (refine Below.mono (B := (World.heap _).size) ?_ sb; (repeat (first | with_reducible exact Below.rf _ | with_reducible exact World.below_ext _ _ | with_reducible refine Below.ex ?_ _ | with_reducible refine Below.al ?_ _ | with_reducible refine Below.setCell ?_ (by simp) _ | with_reducible refine Below.drew ?_))))⟩
            case measure => simp [intOf]; omega
        · have b1 : ((x.1 : Int) == (r : Int)) = false := by simp; omega
          have b1' : ((x.1 : Int) != (r : Int)) = true := by simp; omega
          rw [if_pos (Or.inl h1)] at heq
          have HE := hid heq
          clear heq h1
          go_wp2_with (at_builtin; refine hold ?_)
          unfold Hid
          refine wp_app rfl _ _ 27 rfl w.heap.size 84 (.agg #[.int .i64 (0), .int .i64 (0), .int .i64 (0)]) 3 24 Tryz.underlying27 (by kernel_rfl) rfl (by decide) _ (List.length xs) (srow xs) rfl (ownsRow_below HOWN.out (by (repeat (first | with_reducible exact Below.rf _ | with_reducible exact World.below_ext _ _ | with_reducible refine Below.ex ?_ _ | with_reducible refine Below.al ?_ _ | with_reducible refine Below.setCell ?_ (by simp) _ | with_reducible refine Below.drew ?_)))) _ 0 1 1 [.int .i64 (x.1), .int .i64 (x.2.1), .int .i64 (x.2.2)] rfl rfl ?_ (by simp [Value.oneCell']) (by omega) (by omega) ?_ ?_
          · intro j u hj
            have hj2 := (List.getElem?_eq_some_iff.1 hj).1
            simp at hj2
            rcases (by omega : j = 0 ∨ j = 1 ∨ j = 2) with rfl | rfl | rfl <;> simp at hj <;> subst hj <;> simp [go_sem, ↓IntWalk.iteOmega]
          · simp; omega
          intro v' w5 ho5 hb5
          have HO5 := hid ho5
          have HB5 := hid (HB.out.trans (Below.trans (by (refine Below.mono (B := (World.heap _).size) ?_ sb; (repeat (first | with_reducible exact Below.rf _ | with_reducible exact World.below_ext _ _ | with_reducible refine Below.ex ?_ _ | with_reducible refine Below.al ?_ _ | with_reducible refine Below.setCell ?_ (by simp) _ | with_reducible refine Below.drew ?_)))) hb5))
          clear ho5 hb5
          go_wp2
          go_roundw
          case rel =>
            refine ⟨i + 1, xs ++ [x], by go_num, by omega, ?_, by simp; omega, ?_, HB5.out⟩
            · rw [List.append_assoc, List.singleton_append]; exact HE.out
            · rw [List.length_append, srow_app]; exact HO5.out
          case measure => simp [intOf]; omega
      · have hnil : S.tr.drop i = [] := List.drop_eq_nil_of_le (by rw [HTL.out]; omega)
        rw [hnil] at heq
        simp only [trCut, List.append_nil] at heq
        subst heq
        obtain ⟨ao8, cap8, rfl⟩ := own_val hown
        have a6 : _ := World.cell?_of_block (hB.block m lt) |>.trans A6.out
        have lt2 : m < _ := Nat.lt_of_lt_of_le lt sb
        have HB1 := hid hB
        have HOWN1 := hid hown
        clear hB hown a5
        go_wp2
        obtain ⟨w1, rfl⟩ : ∃ w1, w1 = wr := ⟨wr, rfl⟩
        go_loopw [11, 55] (fun v x wz => ∃ (j : Nat) (ys : List (Nat × Nat × Nat × Nat)), x = .int .i64 (j) ∧ j ≤ sl ∧ ys ++ spCut r tn (S.sp.drop j) = Q ∧ ys.length ≤ j ∧ wz.ownsRow w1.heap.size 86 4 v ys.length (qrow ys) ∧ Below w1.heap.size w1 wz) (fun _ x _ => sl - (intOf x).toNat)
        case atStart => exact ⟨0, [], rfl, by omega, HQ.out, by simp, ⟨rfl, Or.inl ⟨rfl, rfl⟩⟩, Below.rf _⟩
        case round =>
          clear a6 HB HOWN
          obtain ⟨j, ys, rfl, hj, heq, hyl, hown, hB⟩ := hrel
          have HB := hid hB
          have HOWN := hid hown
          have hBw : Below w.heap.size w wr := HB1.out.trans (hB.mono sb)
          have HBW := hid hBw
          have sb1 := sb
          replace sb := hB.size
          by_cases hlt2 : j < sl
          · have hkl : j < S.sp.length := by rw [HSL.out]; exact hlt2
            have hx : S.sp[j]? = some S.sp[j] := List.getElem?_eq_getElem hkl
            rw [List.drop_eq_getElem_cons hkl] at heq
            have hxb := HH.out.rd.bs.2 _ (List.getElem_mem hkl)
            generalize S.sp[j] = x at hx heq hxb
            obtain ⟨y0, y1, y2, y3⟩ := qrow_at _ j x hx
            obtain ⟨ao', cap', e1, -, e2⟩ := L6.out.below hBw
            simp only [Value.slice.injEq, true_and] at e1
            obtain ⟨rfl, rfl⟩ := e1
            rcases e2 with e2 | ⟨bb, rfl, hb1, hb2, hcc⟩
            · omega
            have p0 := hcc _ _ y0
            have p1 := hcc _ _ y1
            have p2 := hcc _ _ y2
            have p3 := hcc _ _ y3
            rw [Nat.mul_comm 4] at p0 p1 p2 p3
            simp only [spCut] at heq
            clear hx hkl y0 y1 y2 y3 hcc hB hown hBw
            by_cases h1 : x.1 = r ∧ tn < x.2.2.2
            · have es : spCut1 r tn x = (x.1, x.2.1, x.2.2.1, tn) := if_pos h1
              simp only [es] at heq
              have b1 : ((x.1 : Int) == (r : Int)) = true := by simp [h1.1]
              have b2 : decide (tn < x.2.2.2) = true := decide_eq_true h1.2
              have h12 := h1.2
              clear h1 es
              by_cases h3 : x.2.2.1 < tn
              · rw [if_pos h3] at heq
                have b3 : decide (x.2.2.1 < tn) = true := decide_eq_true h3
                have HE := hid heq
                clear heq
                go_wp2_with (at_builtin; refine hold ?_)
                unfold Hid
                refine wp_app rfl _ _ 28 rfl w1.heap.size 86 (.agg #[.int .i64 (0), .int .i64 (0), .int .i64 (0), .int .i64 (0)]) 4 32 Tryz.underlying28 (by kernel_rfl) rfl (by decide) _ (List.length ys) (qrow ys) rfl (ownsRow_below HOWN.out (by (repeat (first | with_reducible exact Below.rf _ | with_reducible exact World.below_ext _ _ | with_reducible refine Below.ex ?_ _ | with_reducible refine Below.al ?_ _ | with_reducible refine Below.setCell ?_ (by simp) _ | with_reducible refine Below.drew ?_)))) _ 0 1 1 [.int .i64 (x.1), .int .i64 (x.2.1), .int .i64 (x.2.2.1), .int .i64 (tn)] rfl rfl ?_ (by simp [Value.oneCell']) (by omega) (by omega) ?_ ?_
                · intro j u hj
                  have hj2 := (List.getElem?_eq_some_iff.1 hj).1
                  simp at hj2
                  rcases (by omega : j = 0 ∨ j = 1 ∨ j = 2 ∨ j = 3) with rfl | rfl | rfl | rfl <;> simp at hj <;> subst hj <;> simp [go_sem, ↓IntWalk.iteOmega]
                · simp; omega
                intro v' w5 ho5 hb5
                have HO5 := hid ho5
                have HB5 := hid (HB.out.trans (Below.trans (by (refine Below.mono (B := (World.heap _).size) ?_ sb; (repeat (first | with_reducible exact Below.rf _ | with_reducible exact World.below_ext _ _ | with_reducible refine Below.ex ?_ _ | with_reducible refine Below.al ?_ _ | with_reducible refine Below.setCell ?_ (by simp) _ | with_reducible refine Below.drew ?_)))) hb5))
                clear ho5 hb5
                go_wp2
                go_roundw
                case rel =>
                  refine ⟨j + 1, ys ++ [(x.1, x.2.1, x.2.2.1, tn)], by go_num, by omega, ?_, by simp; omega, ?_, HB5.out⟩
                  · rw [List.append_assoc, List.singleton_append]; exact HE.out
                  · rw [List.length_append, qrow_app]; exact HO5.out
                case measure => simp [intOf]; omega
              · rw [if_neg h3] at heq
                have b3 : decide (x.2.2.1 < tn) = false := decide_eq_false h3
                have HE := hid heq
                clear heq
                go_wp2
                go_roundw
                case rel => exact ⟨j + 1, ys, by go_num, by omega, HE.out, by omega, ownsRow_below HOWN.out (by (repeat (first | with_reducible exact Below.rf _ | with_reducible exact World.below_ext _ _ | with_reducible refine Below.ex ?_ _ | with_reducible refine Below.al ?_ _ | with_reducible refine Below.setCell ?_ (by simp) _ | with_reducible refine Below.drew ?_))), HB.out.trans (by (refine Below.mono (B := (World.heap _).size) ?_ sb; (repeat (first | with_reducible exact Below.rf _ | with_reducible exact World.below_ext _ _ | with_reducible refine Below.ex ?_ _ | with_reducible refine Below.al ?_ _ | with_reducible refine Below.setCell ?_ (by simp) _ | with_reducible refine Below.drew ?_))))⟩
                case measure => simp [intOf]; omega
            · have es : spCut1 r tn x = x := if_neg h1
              simp only [es] at heq
              clear es
              by_cases h3 : x.2.2.1 < x.2.2.2
              · rw [if_pos h3] at heq
                have b3 : decide (x.2.2.1 < x.2.2.2) = true := decide_eq_true h3
                have HE := hid heq
                clear heq
                by_cases h4 : x.1 = r
                · have b1 : ((x.1 : Int) == (r : Int)) = true := by simp [h4]
                  have h5 : ¬ (tn < x.2.2.2) := fun h => h1 ⟨h4, h⟩
                  have b2 : decide (tn < x.2.2.2) = false := decide_eq_false h5
                  clear h1 h4
                  go_wp2_with (at_builtin; refine hold ?_)
                  unfold Hid
                  refine wp_app rfl _ _ 28 rfl w1.heap.size 86 (.agg #[.int .i64 (0), .int .i64 (0), .int .i64 (0), .int .i64 (0)]) 4 32 Tryz.underlying28 (by kernel_rfl) rfl (by decide) _ (List.length ys) (qrow ys) rfl (ownsRow_below HOWN.out (by (repeat (first | with_reducible exact Below.rf _ | with_reducible exact World.below_ext _ _ | with_reducible refine Below.ex ?_ _ | with_reducible refine Below.al ?_ _ | with_reducible refine Below.setCell ?_ (by simp) _ | with_reducible refine Below.drew ?_)))) _ 0 1 1 [.int .i64 (x.1), .int .i64 (x.2.1), .int .i64 (x.2.2.1), .int .i64 (x.2.2.2)] rfl rfl ?_ (by simp [Value.oneCell']) (by omega) (by omega) ?_ ?_
                  · intro j u hj
                    have hj2 := (List.getElem?_eq_some_iff.1 hj).1
                    simp at hj2
                    rcases (by omega : j = 0 ∨ j = 1 ∨ j = 2 ∨ j = 3) with rfl | rfl | rfl | rfl <;> simp at hj <;> subst hj <;> simp [go_sem, ↓IntWalk.iteOmega]
                  · simp; omega
                  intro v' w5 ho5 hb5
                  have HO5 := hid ho5
                  have HB5 := hid (HB.out.trans (Below.trans (by (refine Below.mono (B := (World.heap _).size) ?_ sb; (repeat (first | with_reducible exact Below.rf _ | with_reducible exact World.below_ext _ _ | with_reducible refine Below.ex ?_ _ | with_reducible refine Below.al ?_ _ | with_reducible refine Below.setCell ?_ (by simp) _ | with_reducible refine Below.drew ?_)))) hb5))
                  clear ho5 hb5
                  go_wp2
                  go_roundw
                  case rel =>
                    refine ⟨j + 1, ys ++ [x], by go_num, by omega, ?_, by simp; omega, ?_, HB5.out⟩
                    · rw [List.append_assoc, List.singleton_append]; exact HE.out
                    · rw [List.length_append, qrow_app]; exact HO5.out
                  case measure => simp [intOf]; omega
                · have b1 : ((x.1 : Int) == (r : Int)) = false := by simp; omega
                  clear h1 h4
                  go_wp2_with (at_builtin; refine hold ?_)
                  unfold Hid
                  refine wp_app rfl _ _ 28 rfl w1.heap.size 86 (.agg #[.int .i64 (0), .int .i64 (0), .int .i64 (0), .int .i64 (0)]) 4 32 Tryz.underlying28 (by kernel_rfl) rfl (by decide) _ (List.length ys) (qrow ys) rfl (ownsRow_below HOWN.out (by (repeat (first | with_reducible exact Below.rf _ | with_reducible exact World.below_ext _ _ | with_reducible refine Below.ex ?_ _ | with_reducible refine Below.al ?_ _ | with_reducible refine Below.setCell ?_ (by simp) _ | with_reducible refine Below.drew ?_)))) _ 0 1 1 [.int .i64 (x.1), .int .i64 (x.2.1), .int .i64 (x.2.2.1), .int .i64 (x.2.2.2)] rfl rfl ?_ (by simp [Value.oneCell']) (by omega) (by omega) ?_ ?_
                  · intro j u hj
                    have hj2 := (List.getElem?_eq_some_iff.1 hj).1
                    simp at hj2
                    rcases (by omega : j = 0 ∨ j = 1 ∨ j = 2 ∨ j = 3) with rfl | rfl | rfl | rfl <;> simp at hj <;> subst hj <;> simp [go_sem, ↓IntWalk.iteOmega]
                  · simp; omega
                  intro v' w5 ho5 hb5
                  have HO5 := hid ho5
                  have HB5 := hid (HB.out.trans (Below.trans (by (refine Below.mono (B := (World.heap _).size) ?_ sb; (repeat (first | with_reducible exact Below.rf _ | with_reducible exact World.below_ext _ _ | with_reducible refine Below.ex ?_ _ | with_reducible refine Below.al ?_ _ | with_reducible refine Below.setCell ?_ (by simp) _ | with_reducible refine Below.drew ?_)))) hb5))
                  clear ho5 hb5
                  go_wp2
                  go_roundw
                  case rel =>
                    refine ⟨j + 1, ys ++ [x], by go_num, by omega, ?_, by simp; omega, ?_, HB5.out⟩
                    · rw [List.append_assoc, List.singleton_append]; exact HE.out
                    · rw [List.length_append, qrow_app]; exact HO5.out
                  case measure => simp [intOf]; omega
              · rw [if_neg h3] at heq
                have b3 : decide (x.2.2.1 < x.2.2.2) = false := decide_eq_false h3
                have HE := hid heq
                clear heq
                by_cases h4 : x.1 = r
                · have b1 : ((x.1 : Int) == (r : Int)) = true := by simp [h4]
                  have h5 : ¬ (tn < x.2.2.2) := fun h => h1 ⟨h4, h⟩
                  have b2 : decide (tn < x.2.2.2) = false := decide_eq_false h5
                  clear h1 h4
                  go_wp2
                  go_roundw
                  case rel => exact ⟨j + 1, ys, by go_num, by omega, HE.out, by omega, ownsRow_below HOWN.out (by (repeat (first | with_reducible exact Below.rf _ | with_reducible exact World.below_ext _ _ | with_reducible refine Below.ex ?_ _ | with_reducible refine Below.al ?_ _ | with_reducible refine Below.setCell ?_ (by simp) _ | with_reducible refine Below.drew ?_))), HB.out.trans (by (refine Below.mono (B := (World.heap _).size) ?_ sb; (repeat (first | with_reducible exact Below.rf _ | with_reducible exact World.below_ext _ _ | with_reducible refine Below.ex ?_ _ | with_reducible refine Below.al ?_ _ | with_reducible refine Below.setCell ?_ (by simp) _ | with_reducible refine Below.drew ?_))))⟩
                  case measure => simp [intOf]; omega
                · have b1 : ((x.1 : Int) == (r : Int)) = false := by simp; omega
                  clear h1 h4
                  go_wp2
                  go_roundw
                  case rel => exact ⟨j + 1, ys, by go_num, by omega, HE.out, by omega, ownsRow_below HOWN.out (by (repeat (first | with_reducible exact Below.rf _ | with_reducible exact World.below_ext _ _ | with_reducible refine Below.ex ?_ _ | with_reducible refine Below.al ?_ _ | with_reducible refine Below.setCell ?_ (by simp) _ | with_reducible refine Below.drew ?_))), HB.out.trans (by (refine Below.mono (B := (World.heap _).size) ?_ sb; (repeat (first | with_reducible exact Below.rf _ | with_reducible exact World.below_ext _ _ | with_reducible refine Below.ex ?_ _ | with_reducible refine Below.al ?_ _ | with_reducible refine Below.setCell ?_ (by simp) _ | with_reducible refine Below.drew ?_))))⟩
                  case measure => simp [intOf]; omega
          · have hnil : S.sp.drop j = [] := List.drop_eq_nil_of_le (by rw [HSL.out]; omega)
            rw [hnil] at heq
            simp only [spCut, List.append_nil] at heq
            subst heq
            obtain ⟨ao9, cap9, rfl⟩ := own_val hown
            have a5' := cell_kq hBw lt A5.out
            have a6' := cell_kq hBw lt A6.out
            have f5 := froz_kq hBw lt (HH.out.fz 5 (by omega))
            have f6 := froz_kq hBw lt (HH.out.fz 6 (by omega))
            have lt3 := Nat.lt_of_lt_of_le lt hBw.size
            have bx : xs.length ≤ 3000 ∧ ∀ x, x ∈ xs → x.1 < 6 ∧ x.2.1 < 150 ∧ x.2.2 ≤ 2000000000 := ⟨by omega, fun x hx => HH.out.rd.bt.2 x (trCut_mem r tn S.tr x (HL.out ▸ hx)).1⟩
            have by2 : ys.length ≤ 3000 ∧ ∀ x, x ∈ ys → x.1 < 6 ∧ x.2.1 < 150 ∧ x.2.2.1 ≤ 2000000000 ∧ x.2.2.2 ≤ 1099511627776 := ⟨by omega, fun x hx => spCut_bd r tn S.sp HH.out.rd.bs.2 x (HQ.out ▸ hx)⟩
            have M1 := (HH.out.below hBw).setT (tr := xs) (v := .slice ao8 xs.length cap8) ((LAz.own HOWN1.out HH.out.gf).below hB) bx
            have M2 := M1.setP (sp := ys) (v := .slice ao9 ys.length cap9) ((LAz.own hown (fun j hj => HH.out.gf j (by omega))).kept HH.out.gm ((KeptBut.refl _ _).set' _ _)) by2
            have HE1 := hid (mheld_any m { S with tr := xs, sp := ys } _ M2.rd)
            have HM2 := hid M2
            clear M1 M2 hown hB hBw bx by2
            go_wp2_with (go_at_call 58; refine HE1.out.mono ?_; rintro e w' ⟨rfl, z2, rfl⟩)
            go_ret
            refine ⟨?_, ?_, ?_⟩
            · simp only [MdS.trunc, MdS.cut]
              rw [HL.out, HQ.out, HTL.out, HSL.out]
              rfl
            · rw [show (S.trunc r tn).2 = { S with tr := xs, sp := ys } by simp only [MdS.trunc, MdS.cut]; rw [HL.out, HQ.out]]
              exact HM2.out.below (by (repeat (first | with_reducible exact Below.rf _ | with_reducible exact World.below_ext _ _ | with_reducible refine Below.ex ?_ _ | with_reducible refine Below.al ?_ _ | with_reducible refine Below.setCell ?_ (by simp) _ | with_reducible refine Below.drew ?_)))
            · exact (KeptBut.of_below (B := (World.heap _).size) HBW.out (Nat.le_refl _)).trans (by (repeat (first | with_reducible exact KeptBut.refl _ _ | with_reducible refine KeptBut.ex ?_ _ | with_reducible refine KeptBut.al ?_ _ | with_reducible refine KeptBut.set' ?_ _ _)))
end Go.Proofs.Qxb6500717aGreat
