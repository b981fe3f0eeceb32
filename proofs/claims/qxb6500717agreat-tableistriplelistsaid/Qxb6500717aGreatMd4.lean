/-
  The model: laterOn, FreeFrom.
-/
import Derived.Test.Qxb6500717aGreatMd3
namespace Go.Proofs.Qxb6500717aGreat
open Go.RowKit
set_option linter.unusedSimpArgs false
set_option linter.unusedVariables false
set_option maxRecDepth 20000
set_option maxHeartbeats 4000000

def laterT : List (Nat × Nat × Nat) → Nat → Int → Int → Bool
  | [], _, _, _ => false
  | x :: l, r, c, t => if x.1 = r ∧ (c = -1 ∨ (x.2.1 : Int) = c) ∧ t ≤ (x.2.2 : Int) then true else laterT l r c t
def laterS : List (Nat × Nat × Nat × Nat) → Nat → Int → Int → Bool
  | [], _, _, _ => false
  | x :: l, r, c, t => if x.1 = r ∧ (c = -1 ∨ (x.2.1 : Int) = c) ∧ t < (x.2.2.2 : Int) then true else laterS l r c t
def MdS.later (S : MdS) (r : Nat) (c t : Int) : Bool := laterT S.tr r c t || laterS S.sp r c t

theorem mlater_any (m : Nat) (S : MdS) (r : Nat) (c t : Int) (w : World) (h : MdR w m S) : Calls Tryz.prog 80 #[.pointer (some ⟨m, 0, none⟩), .int .i64 (r), .int .i64 (c), .int .i64 (t)] w fun e w' => e = .returned (.bool (S.later r c t)) ∧ Below w.heap.size w w' := by
  have HH := hid h
  obtain ⟨v5, a5, b5⟩ := h.l5
  obtain ⟨v6, a6, b6⟩ := h.l6
  have lt := h.lt
  have hbt := h.bt.1
  have hbs := h.bs.1
  obtain ⟨tl, htl⟩ : ∃ n, S.tr.length = n := ⟨_, rfl⟩
  obtain ⟨sl, hsl⟩ : ∃ n, S.sp.length = n := ⟨_, rfl⟩
  rw [htl] at b5 hbt
  rw [hsl] at b6 hbs
  have HTL := hid htl
  have HSL := hid hsl
  have L5 := hid b5
  have L6 := hid b6
  obtain ⟨ao1, cap1, rfl, lc1, -⟩ := b5
  obtain ⟨ao2, cap2, rfl, lc2, -⟩ := b6
  obtain ⟨res, hres⟩ : ∃ x, S.later r c t = x := ⟨_, rfl⟩
  rw [hres]
  have HRES := hid hres
  have A6 := hid a6
  clear h htl hsl hres a6
  go_enter Tryz.func80, Tryz.ntmps80
  go_wp2
  go_loopw [18] (fun x wr => ∃ i : Nat, x = .int .i64 (i) ∧ i ≤ tl ∧ (laterT (S.tr.drop i) r c t || laterS S.sp r c t) = res ∧ Below w.heap.size w wr) (fun x _ => tl - (intOf x).toNat)
  case atStart => exact ⟨0, rfl, by omega, HRES.out, Below.rf _⟩
  case round =>
    clear a5
    obtain ⟨i, rfl, hi, heq, hB⟩ := hrel
    have HB := hid hB
    have sb := hB.size
    by_cases hlt : i < tl
    · have hkl : i < S.tr.length := by rw [HTL.out]; exact hlt
      have hx : S.tr[i]? = some S.tr[i] := List.getElem?_eq_getElem hkl
      rw [List.drop_eq_getElem_cons hkl] at heq
      have hxb := HH.out.bt.2 _ (List.getElem_mem hkl)
      generalize S.tr[i] = x at hx heq hxb
      obtain ⟨y0, y1, y2⟩ := srow_at _ i x hx
      obtain ⟨ao', cap', e1, -, e2⟩ := L5.out.below hB
      simp only [Value.slice.injEq, true_and] at e1
      obtain ⟨rfl, rfl⟩ := e1
      rcases e2 with e2 | ⟨bb, rfl, hb1, hb2, hcc⟩
      · omega
      have p0 := hcc _ _ y0
      have p1 := hcc _ _ y1
      have p2 := hcc _ _ y2
      rw [Nat.mul_comm 3] at p0 p1 p2
      simp only [laterT] at heq
      clear hx hkl y0 y1 y2 hcc hB
      by_cases h1 : x.1 = r
      · have b1 : ((x.1 : Int) == (r : Int)) = true := by simp [h1]
        by_cases h2 : c = -1
        · have b2 : (c == -1) = true := by simp [h2]
          by_cases h3 : t ≤ (x.2.2 : Int)
          · have b3 : decide (t ≤ (x.2.2 : Int)) = true := decide_eq_true h3
            rw [if_pos (by first | exact ⟨h1, Or.inl h2, h3⟩ | exact ⟨h1, Or.inr h4, h3⟩)] at heq
            try simp only [Bool.true_or] at heq
            have HE := hid heq
            clear heq h1
            go_wp2
            go_ret
            exact ⟨ret_bool HE.out, HB.out.trans (by (refine Below.mono (B := (World.heap _).size) ?_ sb; (repeat (first | with_reducible exact Below.rf _ | with_reducible exact World.below_ext _ _ | with_reducible refine Below.ex ?_ _ | with_reducible refine Below.al ?_ _ | with_reducible refine Below.setCell ?_ (by simp) _ | with_reducible refine Below.drew ?_))))⟩
          · have b3 : decide (t ≤ (x.2.2 : Int)) = false := decide_eq_false h3
            rw [if_neg (fun h => h3 h.2.2)] at heq
            have HE := hid heq
            clear heq h1
            go_wp2
            go_roundw
            case rel => exact ⟨i + 1, by go_num, by omega, HE.out, HB.out.trans (by (refine Below.mono (B := (World.heap _).size) ?_ sb; (repeat (first | with_reducible exact Below.rf _ | with_reducible exact World.below_ext _ _ | with_reducible refine Below.ex ?_ _ | with_reducible refine Below.al ?_ _ | with_reducible refine Below.setCell ?_ (by simp) _ | with_reducible refine Below.drew ?_))))⟩
            case measure => simp [intOf]; omega
        · have b2 : (c == -1) = false := by simp [h2]
          by_cases h4 : (x.2.1 : Int) = c
          · have b4 : ((x.2.1 : Int) == c) = true := by simp [h4]
            by_cases h3 : t ≤ (x.2.2 : Int)
            · have b3 : decide (t ≤ (x.2.2 : Int)) = true := decide_eq_true h3
              rw [if_pos (by first | exact ⟨h1, Or.inl h2, h3⟩ | exact ⟨h1, Or.inr h4, h3⟩)] at heq
              try simp only [Bool.true_or] at heq
              have HE := hid heq
              clear heq h1
              go_wp2
              go_ret
              exact ⟨ret_bool HE.out, HB.out.trans (by (refine Below.mono (B := (World.heap _).size) ?_ sb; (repeat (first | with_reducible exact Below.rf _ | with_reducible exact World.below_ext _ _ | with_reducible refine Below.ex ?_ _ | with_reducible refine Below.al ?_ _ | with_reducible refine Below.setCell ?_ (by simp) _ | with_reducible refine Below.drew ?_))))⟩
            · have b3 : decide (t ≤ (x.2.2 : Int)) = false := decide_eq_false h3
              rw [if_neg (fun h => h3 h.2.2)] at heq
              have HE := hid heq
              clear heq h1
              go_wp2
              go_roundw
              case rel => exact ⟨i + 1, by go_num, by omega, HE.out, HB.out.trans (by (refine Below.mono (B := (World.heap _).size) ?_ sb; (repeat (first | with_reducible exact Below.rf _ | with_reducible exact World.below_ext _ _ | with_reducible refine Below.ex ?_ _ | with_reducible refine Below.al ?_ _ | with_reducible refine Below.setCell ?_ (by simp) _ | with_reducible refine Below.drew ?_))))⟩
              case measure => simp [intOf]; omega
          · have b4 : ((x.2.1 : Int) == c) = false := by simp [h4]
            rw [if_neg (fun h => (by rcases h.2.1 with h5 | h5; exact h2 h5; exact h4 h5))] at heq
            have HE := hid heq
            clear heq h1
            go_wp2
            go_roundw
            case rel => exact ⟨i + 1, by go_num, by omega, HE.out, HB.out.trans (by (refine Below.mono (B := (World.heap _).size) ?_ sb; (repeat (first | with_reducible exact Below.rf _ | with_reducible exact World.below_ext _ _ | with_reducible refine Below.ex ?_ _ | with_reducible refine Below.al ?_ _ | with_reducible refine Below.setCell ?_ (by simp) _ | with_reducible refine Below.drew ?_))))⟩
            case measure => simp [intOf]; omega
      · have b1 : ((x.1 : Int) == (r : Int)) = false := by simp; omega
        rw [if_neg (fun h => h1 h.1)] at heq
        have HE := hid heq
        clear heq h1
        go_wp2
        go_roundw
        case rel => exact ⟨i + 1, by go_num, by omega, HE.out, HB.out.trans (by (refine Below.mono (B := (World.heap _).size) ?_ sb; (repeat (first | with_reducible exact Below.rf _ | with_reducible exact World.below_ext _ _ | with_reducible refine Below.ex ?_ _ | with_reducible refine Below.al ?_ _ | with_reducible refine Below.setCell ?_ (by simp) _ | with_reducible refine Below.drew ?_))))⟩
        case measure => simp [intOf]; omega
    · have hnil : S.tr.drop i = [] := List.drop_eq_nil_of_le (by rw [HTL.out]; omega)
      rw [hnil] at heq
      simp only [laterT, Bool.false_or] at heq
      have HE := hid heq
      have a6 : _ := World.cell?_of_block (hB.block m lt) |>.trans A6.out
      have lt2 : m < _ := Nat.lt_of_lt_of_le lt sb
      clear heq hB
      go_wp2
      go_loopw [48] (fun x wz => ∃ i : Nat, x = .int .i64 (i) ∧ i ≤ sl ∧ laterS (S.sp.drop i) r c t = res ∧ Below w.heap.size w wz) (fun x _ => sl - (intOf x).toNat)
      case atStart => exact ⟨0, rfl, by omega, HE.out, HB.out⟩
      case round =>
        clear a6 lt2 HB sb
        obtain ⟨j, rfl, hj, heq, hB⟩ := hrel
        have HB := hid hB
        have sb := hB.size
        by_cases hlt2 : j < sl
        · have hkl : j < S.sp.length := by rw [HSL.out]; exact hlt2
          have hx : S.sp[j]? = some S.sp[j] := List.getElem?_eq_getElem hkl
          rw [List.drop_eq_getElem_cons hkl] at heq
          have hxb := HH.out.bs.2 _ (List.getElem_mem hkl)
          generalize S.sp[j] = x at hx heq hxb
          obtain ⟨y0, y1, y2, y3⟩ := qrow_at _ j x hx
          obtain ⟨ao', cap', e1, -, e2⟩ := L6.out.below hB
          simp only [Value.slice.injEq, true_and] at e1
          obtain ⟨rfl, rfl⟩ := e1
          rcases e2 with e2 | ⟨bb, rfl, hb1, hb2, hcc⟩
          · omega
          have p0 := hcc _ _ y0
          have p1 := hcc _ _ y1
          have p2 := hcc _ _ y2
          have p3 := hcc _ _ y3
          rw [Nat.mul_comm 4] at p0 p1 p2 p3
          simp only [laterS] at heq
          clear hx hkl y0 y1 y2 y3 hcc hB
          by_cases h1 : x.1 = r
          · have b1 : ((x.1 : Int) == (r : Int)) = true := by simp [h1]
            by_cases h2 : c = -1
            · have b2 : (c == -1) = true := by simp [h2]
              by_cases h3 : t < (x.2.2.2 : Int)
              · have b3 : decide (t < (x.2.2.2 : Int)) = true := decide_eq_true h3
                rw [if_pos (by first | exact ⟨h1, Or.inl h2, h3⟩ | exact ⟨h1, Or.inr h4, h3⟩)] at heq
                try simp only [Bool.true_or] at heq
                have HE := hid heq
                clear heq h1
                go_wp2
                go_ret
                exact ⟨ret_bool HE.out, HB.out.trans (by (refine Below.mono (B := (World.heap _).size) ?_ sb; (repeat (first | with_reducible exact Below.rf _ | with_reducible exact World.below_ext _ _ | with_reducible refine Below.ex ?_ _ | with_reducible refine Below.al ?_ _ | with_reducible refine Below.setCell ?_ (by simp) _ | with_reducible refine Below.drew ?_))))⟩
              · have b3 : decide (t < (x.2.2.2 : Int)) = false := decide_eq_false h3
                rw [if_neg (fun h => h3 h.2.2)] at heq
                have HE := hid heq
                clear heq h1
                go_wp2
                go_roundw
                case rel => exact ⟨j + 1, by go_num, by omega, HE.out, HB.out.trans (by (refine Below.mono (B := (World.heap _).size) ?_ sb; (repeat (first | with_reducible exact Below.rf _ | with_reducible exact World.below_ext _ _ | with_reducible refine Below.ex ?_ _ | with_reducible refine Below.al ?_ _ | with_reducible refine Below.setCell ?_ (by simp) _ | with_reducible refine Below.drew ?_))))⟩
                case measure => simp [intOf]; omega
            · have b2 : (c == -1) = false := by simp [h2]
              by_cases h4 : (x.2.1 : Int) = c
              · have b4 : ((x.2.1 : Int) == c) = true := by simp [h4]
                by_cases h3 : t < (x.2.2.2 : Int)
                · have b3 : decide (t < (x.2.2.2 : Int)) = true := decide_eq_true h3
                  rw [if_pos (by first | exact ⟨h1, Or.inl h2, h3⟩ | exact ⟨h1, Or.inr h4, h3⟩)] at heq
                  try simp only [Bool.true_or] at heq
                  have HE := hid heq
                  clear heq h1
                  go_wp2
                  go_ret
                  exact ⟨ret_bool HE.out, HB.out.trans (by (refine Below.mono (B := (World.heap _).size) ?_ sb; (repeat (first | with_reducible exact Below.rf _ | with_reducible exact World.below_ext _ _ | with_reducible refine Below.ex ?_ _ | with_reducible refine Below.al ?_ _ | with_reducible refine Below.setCell ?_ (by simp) _ | with_reducible refine Below.drew ?_))))⟩
                · have b3 : decide (t < (x.2.2.2 : Int)) = false := decide_eq_false h3
                  rw [if_neg (fun h => h3 h.2.2)] at heq
                  have HE := hid heq
                  clear heq h1
                  go_wp2
                  go_roundw
                  case rel => exact ⟨j + 1, by go_num, by omega, HE.out, HB.out.trans (by (refine Below.mono (B := (World.heap _).size) ?_ sb; (repeat (first | with_reducible exact Below.rf _ | with_reducible exact World.below_ext _ _ | with_reducible refine Below.ex ?_ _ | with_reducible refine Below.al ?_ _ | with_reducible refine Below.setCell ?_ (by simp) _ | with_reducible refine Below.drew ?_))))⟩
                  case measure => simp [intOf]; omega
              · have b4 : ((x.2.1 : Int) == c) = false := by simp [h4]
                rw [if_neg (fun h => (by rcases h.2.1 with h5 | h5; exact h2 h5; exact h4 h5))] at heq
                have HE := hid heq
                clear heq h1
                go_wp2
                go_roundw
                case rel => exact ⟨j + 1, by go_num, by omega, HE.out, HB.out.trans (by (refine Below.mono (B := (World.heap _).size) ?_ sb; (repeat (first | with_reducible exact Below.rf _ | with_reducible exact World.below_ext _ _ | with_reducible refine Below.ex ?_ _ | with_reducible refine Below.al ?_ _ | with_reducible refine Below.setCell ?_ (by simp) _ | with_reducible refine Below.drew ?_))))⟩
                case measure => simp [intOf]; omega
          · have b1 : ((x.1 : Int) == (r : Int)) = false := by simp; omega
            rw [if_neg (fun h => h1 h.1)] at heq
            have HE := hid heq
            clear heq h1
            go_wp2
            go_roundw
            case rel => exact ⟨j + 1, by go_num, by omega, HE.out, HB.out.trans (by (refine Below.mono (B := (World.heap _).size) ?_ sb; (repeat (first | with_reducible exact Below.rf _ | with_reducible exact World.below_ext _ _ | with_reducible refine Below.ex ?_ _ | with_reducible refine Below.al ?_ _ | with_reducible refine Below.setCell ?_ (by simp) _ | with_reducible refine Below.drew ?_))))⟩
            case measure => simp [intOf]; omega
        · have hnil : S.sp.drop j = [] := List.drop_eq_nil_of_le (by rw [HSL.out]; omega)
          rw [hnil] at heq
          simp only [laterS] at heq
          have HE := hid heq
          clear heq hB
          go_wp2
          go_ret
          exact ⟨ret_bool HE.out, HB.out⟩
end Go.Proofs.Qxb6500717aGreat
