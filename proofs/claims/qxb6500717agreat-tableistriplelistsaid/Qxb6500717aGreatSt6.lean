/-
  The model's Step: removable.
-/
import Derived.Test.Qxb6500717aGreatSt3
namespace Go.Proofs.Qxb6500717aGreat
open Go.RowKit
set_option linter.unusedSimpArgs false
set_option linter.unusedVariables false
set_option maxRecDepth 20000
set_option maxHeartbeats 4000000

def cntTr (r t : Int) : List (Nat × Nat × Nat) → Nat
  | [] => 0
  | x :: l => if (x.1 : Int) = r ∧ t ≤ (x.2.2 : Int) then cntTr r t l + 1 else cntTr r t l
def cntSp (r t : Int) : List (Nat × Nat × Nat × Nat) → Nat
  | [] => 0
  | x :: l => if (x.1 : Int) = r ∧ t ≤ (x.2.2.1 : Int) then cntSp r t l + 1 else cntSp r t l
theorem bx_w {w wr : World} {a b : Obj} (h : Below (w.heap.size + 1 + 1) ((w.alloc a).alloc b) wr) : Below w.heap.size w wr := Below.trans (((Below.rf w).al a).al b) (h.mono (by omega))
theorem bx_start {w z : World} {a b : Obj} : Below (w.heap.size + 1 + 1) ((w.alloc a).alloc b) (((w.alloc a).alloc b).ext z) := by
  have := World.below_ext ((w.alloc a).alloc b) z
  simpa using this
theorem st_remov (A B C D : Int) (ao : Option Addr) (n cap : Nat) (lab : Nat → Nat) (m k : Nat) (M : ModS) (w : World) (h : ModX w lab m k M) (hh : M.S.has = true) : Calls Tryz.prog 8 #[.pointer (some ⟨m, 0, none⟩), .agg #[.int .i64 (13), .int .i64 (A), .int .i64 (B), .int .i64 (C), .int .i64 (D), .slice ao n cap]] w (stPost lab m k (((0, [((cntTr A C M.S.tr + cntSp A C M.S.sp : Nat) : Int)]), M)) w) := by
  have HH := hid h
  obtain ⟨V, hO, h8, h9, h7, h10⟩ := h.opens
  have HO := hid hO
  have H8 := hid h8
  have H9 := hid h9
  have H7 := hid h7
  have H10 := hid h10
  have c0 := (hO w (Below.rf _)).rd.c0
  rw [hh] at c0
  have lt := (hO w (Below.rf _)).rd.lt
  clear h hO h8 h9 h7 h10 hh
  obtain ⟨v5, a5, b5⟩ := (HO.out w (Below.rf _)).rd.l5
  obtain ⟨v6, a6, b6⟩ := (HO.out w (Below.rf _)).rd.l6
  have hbt := (HO.out w (Below.rf _)).rd.bt.1
  have hbs := (HO.out w (Below.rf _)).rd.bs.1
  obtain ⟨tl, htl⟩ : ∃ n, M.S.tr.length = n := ⟨_, rfl⟩
  obtain ⟨sl, hsl⟩ : ∃ n, M.S.sp.length = n := ⟨_, rfl⟩
  rw [htl] at b5 hbt
  rw [hsl] at b6 hbs
  have HTL := hid htl
  have HSL := hid hsl
  have L5 := hid b5
  have L6 := hid b6
  obtain ⟨ao1, cap1, rfl, lc1, -⟩ := b5
  obtain ⟨ao2, cap2, rfl, lc2, -⟩ := b6
  have A6 := hid a6
  obtain ⟨R1, hR1⟩ : ∃ x, cntTr A C M.S.tr = x := ⟨_, rfl⟩
  obtain ⟨R2, hR2⟩ : ∃ x, cntSp A C M.S.sp = x := ⟨_, rfl⟩
  rw [hR1, hR2]
  have HR1 := hid hR1
  have HR2 := hid hR2
  clear htl hsl hR1 hR2
  go_enter Tryz.func8, Tryz.ntmps8
  go_wp2
  first | with_reducible refine wp_region_ext2 (by kernel_rfl) (by kernel_rfl) ?_ | refine wp_region_ext (by kernel_rfl) (by kernel_rfl) ?_
  repeat (go_big_quiet_step (fail))
  refine wpQuiet_nil ?_
  rintro _ ⟨z, rfl⟩
  go_wp2
  go_loopw [18, 477] (fun y x wr => ∃ (i c : Nat), x = .int .i64 (i) ∧ y = .int .i64 (c) ∧ i ≤ tl ∧ c ≤ i ∧ c + cntTr A C (M.S.tr.drop i) = R1 ∧ Below (w.heap.size + 1 + 1) (((w.alloc (.cells #[.int .i64 (13), .int .i64 (A), .int .i64 (B), .int .i64 (C), .int .i64 (D), .slice ao n cap] 36)).alloc (.cells #[.int .u8 0, .slice none 0 0] 39))) wr) (fun _ x _ => tl - (intOf x).toNat)
  case atStart => exact ⟨0, 0, rfl, rfl, by omega, by omega, by rw [Nat.zero_add]; exact HR1.out, bx_start⟩
  case round =>
    obtain ⟨i, c, rfl, rfl, hi, hc, heq, hB⟩ := hrel
    have HB := hid hB
    have sb := hB.size
    simp at sb
    by_cases hlt : i < tl
    · have hkl : i < M.S.tr.length := by rw [HTL.out]; exact hlt
      have hx : M.S.tr[i]? = some M.S.tr[i] := List.getElem?_eq_getElem hkl
      rw [List.drop_eq_getElem_cons hkl] at heq
      have hxb := (HO.out w (Below.rf _)).rd.bt.2 _ (List.getElem_mem hkl)
      generalize M.S.tr[i] = x at hx heq hxb
      obtain ⟨y0, y1, y2⟩ := srow_at _ i x hx
      obtain ⟨ao', cap', e1, -, e2⟩ := L5.out.below (bx_w hB)
      simp only [Value.slice.injEq, true_and] at e1
      obtain ⟨rfl, rfl⟩ := e1
      rcases e2 with e2 | ⟨bb, rfl, hb1, hb2, hcc⟩
      · omega
      have p0 := hcc _ _ y0
      have p1 := hcc _ _ y1
      have p2 := hcc _ _ y2
      rw [Nat.mul_comm 3] at p0 p1 p2
      simp only [cntTr] at heq
      clear hx hkl y0 y1 y2 hcc hB a5 a6
      by_cases h1 : (x.1 : Int) = A
      · have b1 : ((x.1 : Int) == A) = true := by simp [h1]
        by_cases h2 : C ≤ (x.2.2 : Int)
        · have b2 : decide (C ≤ (x.2.2 : Int)) = true := decide_eq_true h2
          rw [if_pos ⟨h1, h2⟩] at heq
          have HE := hid heq
          clear heq h1
          go_wp2
          go_roundw
          case rel => exact ⟨i + 1, c + 1, by go_num, by go_num, by omega, by omega, by have := HE.out; omega, HB.out.trans (by refine Below.mono (B := (World.heap _).size) ?_ (by omega); (repeat (first | with_reducible exact Below.rf _ | with_reducible exact World.below_ext _ _ | with_reducible refine Below.ex ?_ _ | with_reducible refine Below.al ?_ _ | with_reducible refine Below.setCell ?_ (by simp) _ | with_reducible refine Below.drew ?_)))⟩
          case measure => simp [intOf]; omega
        · have b2 : decide (C ≤ (x.2.2 : Int)) = false := decide_eq_false h2
          rw [if_neg (fun h => h2 h.2)] at heq
          have HE := hid heq
          clear heq h1
          go_wp2
          go_roundw
          case rel => exact ⟨i + 1, c, by go_num, rfl, by omega, by omega, HE.out, HB.out.trans (by refine Below.mono (B := (World.heap _).size) ?_ (by omega); (repeat (first | with_reducible exact Below.rf _ | with_reducible exact World.below_ext _ _ | with_reducible refine Below.ex ?_ _ | with_reducible refine Below.al ?_ _ | with_reducible refine Below.setCell ?_ (by simp) _ | with_reducible refine Below.drew ?_)))⟩
          case measure => simp [intOf]; omega
      · have b1 : ((x.1 : Int) == A) = false := by simpa using h1
        rw [if_neg (fun h => h1 h.1)] at heq
        have HE := hid heq
        clear heq h1
        go_wp2
        go_roundw
        case rel => exact ⟨i + 1, c, by go_num, rfl, by omega, by omega, HE.out, HB.out.trans (by refine Below.mono (B := (World.heap _).size) ?_ (by omega); (repeat (first | with_reducible exact Below.rf _ | with_reducible exact World.below_ext _ _ | with_reducible refine Below.ex ?_ _ | with_reducible refine Below.al ?_ _ | with_reducible refine Below.setCell ?_ (by simp) _ | with_reducible refine Below.drew ?_)))⟩
        case measure => simp [intOf]; omega
    · have hnil : M.S.tr.drop i = [] := List.drop_eq_nil_of_le (by rw [HTL.out]; omega)
      rw [hnil] at heq
      simp only [cntTr, Nat.add_zero] at heq
      subst heq
      have a6 : _ := World.cell?_of_block ((bx_w hB).block m lt) |>.trans A6.out
      have lt2 : m < _ := Nat.lt_of_lt_of_le lt (bx_w hB).size
      clear hB a5
      go_wp2
      go_loopw [18, 499] (fun y x wr => ∃ (i d : Nat), x = .int .i64 (i) ∧ y = .int .i64 (c + d) ∧ i ≤ sl ∧ d ≤ i ∧ d + cntSp A C (M.S.sp.drop i) = R2 ∧ Below (w.heap.size + 1 + 1) (((w.alloc (.cells #[.int .i64 (13), .int .i64 (A), .int .i64 (B), .int .i64 (C), .int .i64 (D), .slice ao n cap] 36)).alloc (.cells #[.int .u8 0, .slice none 0 0] 39))) wr) (fun _ x _ => sl - (intOf x).toNat)
      case atStart => exact ⟨0, 0, rfl, by simp, by omega, by omega, by rw [Nat.zero_add]; exact HR2.out, HB.out⟩
      case round =>
        clear a6 HB sb
        obtain ⟨j, d, rfl, rfl, hj, hd, heq, hB⟩ := hrel
        have HB := hid hB
        have sb := hB.size
        simp at sb
        by_cases hlt2 : j < sl
        · have hkl : j < M.S.sp.length := by rw [HSL.out]; exact hlt2
          have hx : M.S.sp[j]? = some M.S.sp[j] := List.getElem?_eq_getElem hkl
          rw [List.drop_eq_getElem_cons hkl] at heq
          have hxb := (HO.out w (Below.rf _)).rd.bs.2 _ (List.getElem_mem hkl)
          generalize M.S.sp[j] = x at hx heq hxb
          obtain ⟨y0, y1, y2, y3⟩ := qrow_at _ j x hx
          obtain ⟨ao', cap', e1, -, e2⟩ := L6.out.below (bx_w hB)
          simp only [Value.slice.injEq, true_and] at e1
          obtain ⟨rfl, rfl⟩ := e1
          rcases e2 with e2 | ⟨bb, rfl, hb1, hb2, hcc⟩
          · omega
          have p0 := hcc _ _ y0
          have p1 := hcc _ _ y1
          have p2 := hcc _ _ y2
          have p3 := hcc _ _ y3
          rw [Nat.mul_comm 4] at p0 p1 p2 p3
          simp only [cntSp] at heq
          clear hx hkl y0 y1 y2 y3 hcc hB
          by_cases h1 : (x.1 : Int) = A
          · have b1 : ((x.1 : Int) == A) = true := by simp [h1]
            by_cases h2 : C ≤ (x.2.2.1 : Int)
            · have b2 : decide (C ≤ (x.2.2.1 : Int)) = true := decide_eq_true h2
              rw [if_pos ⟨h1, h2⟩] at heq
              have HE := hid heq
              clear heq h1
              go_wp2
              go_roundw
              case rel => exact ⟨j + 1, d + 1, by go_num, by go_num, by omega, by omega, by have := HE.out; omega, HB.out.trans (by refine Below.mono (B := (World.heap _).size) ?_ (by omega); (repeat (first | with_reducible exact Below.rf _ | with_reducible exact World.below_ext _ _ | with_reducible refine Below.ex ?_ _ | with_reducible refine Below.al ?_ _ | with_reducible refine Below.setCell ?_ (by simp) _ | with_reducible refine Below.drew ?_)))⟩
              case measure => simp [intOf]; omega
            · have b2 : decide (C ≤ (x.2.2.1 : Int)) = false := decide_eq_false h2
              rw [if_neg (fun h => h2 h.2)] at heq
              have HE := hid heq
              clear heq h1
              go_wp2
              go_roundw
              case rel => exact ⟨j + 1, d, by go_num, rfl, by omega, by omega, HE.out, HB.out.trans (by refine Below.mono (B := (World.heap _).size) ?_ (by omega); (repeat (first | with_reducible exact Below.rf _ | with_reducible exact World.below_ext _ _ | with_reducible refine Below.ex ?_ _ | with_reducible refine Below.al ?_ _ | with_reducible refine Below.setCell ?_ (by simp) _ | with_reducible refine Below.drew ?_)))⟩
              case measure => simp [intOf]; omega
          · have b1 : ((x.1 : Int) == A) = false := by simpa using h1
            rw [if_neg (fun h => h1 h.1)] at heq
            have HE := hid heq
            clear heq h1
            go_wp2
            go_roundw
            case rel => exact ⟨j + 1, d, by go_num, rfl, by omega, by omega, HE.out, HB.out.trans (by refine Below.mono (B := (World.heap _).size) ?_ (by omega); (repeat (first | with_reducible exact Below.rf _ | with_reducible exact World.below_ext _ _ | with_reducible refine Below.ex ?_ _ | with_reducible refine Below.al ?_ _ | with_reducible refine Below.setCell ?_ (by simp) _ | with_reducible refine Below.drew ?_)))⟩
            case measure => simp [intOf]; omega
        · have hnil : M.S.sp.drop j = [] := List.drop_eq_nil_of_le (by rw [HSL.out]; omega)
          rw [hnil] at heq
          simp only [cntSp, Nat.add_zero] at heq
          subst heq
          have f0 := hB.cell (p := ⟨w.heap.size + 1, 0, none⟩) (by simp)
          have f1 := hB.cell (p := ⟨w.heap.size + 1, 1, none⟩) (by simp)
          have f2 := hB.frozen (p := ⟨w.heap.size + 1, 0, none⟩) (by simp)
          have f3 := hB.frozen (p := ⟨w.heap.size + 1, 1, none⟩) (by simp)
          simp [go_sem, ↓IntWalk.iteOmega] at f0 f1 f2 f3
          have HBW := hid (bx_w hB)
          clear hB
          go_wp2_with (go_at_call 43; refine (mok_any _ ⟨_, _, _, rfl⟩ _).mono ?_; rintro e w' ⟨rfl, z9, rfl⟩)
          refine bodyPost_ret (v := .agg #[.int .u8 0, .slice (some ⟨wr.heap.size, 0, none⟩) 1 1]) (by simp [results, Tryz.results8, go_sem, ↓IntWalk.iteOmega, *]) rfl ?_
          rw [show (((c + d : Nat) : Int)) = (c : Int) + d by omega]
          exact st_fin (w1 := wr) (w5 := wr) HH.out H8.out H9.out H7.out H10.out HBW.out (by omega) (HO.out _ HBW.out) (KeptBut.refl _ _) (by (repeat (first | with_reducible exact KeptBut.refl _ _ | with_reducible refine KeptBut.ex ?_ _ | with_reducible refine KeptBut.al ?_ _ | with_reducible refine KeptBut.set' ?_ _ _))) HH.out.ft (IntsAt.one (by first | omega | (simp <;> omega)) (by simp <;> omega) (by simp [go_sem, ↓IntWalk.iteOmega]))
end Go.Proofs.Qxb6500717aGreat
