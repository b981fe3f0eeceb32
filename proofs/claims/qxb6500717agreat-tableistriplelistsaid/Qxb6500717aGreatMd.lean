/-
  The model in memory, what is read of it; At, Holder.
-/
import Derived.Test.Qxb6500717aGreatLst
namespace Go.Proofs.Qxb6500717aGreat
open Go.RowKit
set_option linter.unusedSimpArgs false
set_option linter.unusedVariables false
set_option maxRecDepth 20000
set_option maxHeartbeats 4000000

/-- The model's table: triples (robot, cell, tick), spans (robot, cell, from, until). -/
structure MdS where
  has : Bool
  nc : Nat
  nr : Nat
  cap : Nat
  base : Nat
  tr : List (Nat × Nat × Nat)
  sp : List (Nat × Nat × Nat × Nat)
/-- The model as it is read. -/
structure MdR (w : World) (m : Nat) (S : MdS) : Prop where
  lt : m < w.heap.size
  c0 : w.cell? ⟨m, 0, none⟩ = some (.bool S.has)
  c1 : w.cell? ⟨m, 1, none⟩ = some (.int .i64 (S.nc))
  c2 : w.cell? ⟨m, 2, none⟩ = some (.int .i64 (S.nr))
  c3 : w.cell? ⟨m, 3, none⟩ = some (.int .i64 (S.cap))
  c4 : w.cell? ⟨m, 4, none⟩ = some (.int .i64 (S.base))
  l5 : ∃ v, w.cell? ⟨m, 5, none⟩ = some v ∧ LAt w 0 v S.tr.length (srow S.tr)
  l6 : ∃ v, w.cell? ⟨m, 6, none⟩ = some v ∧ LAt w 0 v S.sp.length (qrow S.sp)
  bn : S.nr ≤ 6 ∧ S.nc ≤ 150 ∧ S.cap ≤ 1536 ∧ S.base ≤ 1073741824
  bt : S.tr.length ≤ 3000 ∧ ∀ x, x ∈ S.tr → x.1 < 6 ∧ x.2.1 < 150 ∧ x.2.2 ≤ 2000000000
  bs : S.sp.length ≤ 3000 ∧ ∀ x, x ∈ S.sp → x.1 < 6 ∧ x.2.1 < 150 ∧ x.2.2.1 ≤ 2000000000 ∧ x.2.2.2 ≤ 1099511627776
section
variable {w w' : World} {m : Nat} {S : MdS}
theorem MdR.below (h : MdR w m S) (hb : Below w.heap.size w w') : MdR w' m S := by
  have e := hb.block m h.lt
  have ce : ∀ i, w'.cell? ⟨m, i, none⟩ = w.cell? ⟨m, i, none⟩ := fun i => World.cell?_of_block e
  obtain ⟨v5, a5, b5⟩ := h.l5
  obtain ⟨v6, a6, b6⟩ := h.l6
  exact ⟨Nat.lt_of_lt_of_le h.lt hb.size, (ce 0).trans h.c0, (ce 1).trans h.c1, (ce 2).trans h.c2, (ce 3).trans h.c3, (ce 4).trans h.c4, ⟨v5, (ce 5).trans a5, b5.below hb⟩, ⟨v6, (ce 6).trans a6, b6.below hb⟩, h.bn, h.bt, h.bs⟩
end

/-- The first triple of a robot at a tick. -/
def trF : List (Nat × Nat × Nat) → Nat → Int → Option Nat
  | [], _, _ => none
  | x :: l, r, t => if x.1 = r ∧ (x.2.2 : Int) = t then some x.2.1 else trF l r t
def spF : List (Nat × Nat × Nat × Nat) → Nat → Int → Option Nat
  | [], _, _ => none
  | x :: l, r, t => if x.1 = r ∧ (x.2.2.1 : Int) ≤ t ∧ t < x.2.2.2 then some x.2.1 else spF l r t
def MdS.at (S : MdS) (r : Nat) (t : Int) : Int := match trF S.tr r t with
  | some c => (c : Int)
  | none => match spF S.sp r t with
    | some c => (c : Int)
    | none => -1

theorem mat_any (m : Nat) (S : MdS) (r : Nat) (t : Int) (w : World) (h : MdR w m S) : Calls Tryz.prog 54 #[.pointer (some ⟨m, 0, none⟩), .int .i64 (r), .int .i64 (t)] w fun e w' => e = .returned (.int .i64 (S.at r t)) ∧ Below w.heap.size w w' := by
  have HH := hid h
  obtain ⟨v5, a5, b5⟩ := h.l5
  obtain ⟨v6, a6, b6⟩ := h.l6
  have lt := h.lt
  have hbt := h.bt.1
  have hbs := h.bs.1
  obtain ⟨tl, htl⟩ : ∃ n, S.tr.length = n := ⟨_, rfl⟩
  obtain ⟨sl, hsl⟩ : ∃ n, S.sp.length = n := ⟨_, rfl⟩
  rw [htl] at b5 hbt
  rw [hsl] at b6 hbs
  have HTL := hid htl
  have HSL := hid hsl
  have L5 := hid b5
  have L6 := hid b6
  obtain ⟨ao1, cap1, rfl, lc1, -⟩ := b5
  obtain ⟨ao2, cap2, rfl, lc2, -⟩ := b6
  obtain ⟨res, hres⟩ : ∃ x, S.at r t = x := ⟨_, rfl⟩
  rw [hres]
  have HRES := hid hres
  have A6 := hid a6
  clear h htl hsl hres a6
  go_enter Tryz.func54, Tryz.ntmps54
  go_wp2
  go_loopw [16] (fun x wr => ∃ i : Nat, x = .int .i64 (i) ∧ i ≤ tl ∧ (match trF (S.tr.drop i) r t with | some c => (c : Int) | none => match spF S.sp r t with | some c => (c : Int) | none => -1) = res ∧ Below w.heap.size w wr) (fun x _ => tl - (intOf x).toNat)
  case atStart => exact ⟨0, rfl, by omega, HRES.out, Below.rf _⟩
  case round =>
    clear a5
    obtain ⟨i, rfl, hi, heq, hB⟩ := hrel
    have HB := hid hB
    have sb := hB.size
    by_cases hlt : i < tl
    · have hkl : i < S.tr.length := by rw [HTL.out]; exact hlt
      have hx : S.tr[i]? = some S.tr[i] := List.getElem?_eq_getElem hkl
      rw [List.drop_eq_getElem_cons hkl] at heq
      have hxb := HH.out.bt.2 _ (List.getElem_mem hkl)
      generalize S.tr[i] = x at hx heq hxb
      obtain ⟨y0, y1, y2⟩ := srow_at _ i x hx
      obtain ⟨ao', cap', e1, -, e2⟩ := L5.out.below hB
      simp only [Value.slice.injEq, true_and] at e1
      obtain ⟨rfl, rfl⟩ := e1
      rcases e2 with e2 | ⟨bb, rfl, hb1, hb2, hcc⟩
      · omega
      have p0 := hcc _ _ y0
      have p1 := hcc _ _ y1
      have p2 := hcc _ _ y2
      rw [Nat.mul_comm 3] at p0 p1 p2
      simp only [trF] at heq
      clear hx hkl y0 y1 y2 hcc hB
      by_cases h1 : x.1 = r
      · have b1 : ((x.1 : Int) == (r : Int)) = true := by simp [h1]
        by_cases h2 : (x.2.2 : Int) = t
        · have b2 : ((x.2.2 : Int) == t) = true := by simp [h2]
          rw [if_pos ⟨h1, h2⟩] at heq
          have HE := hid heq
          clear heq h1 h2
          go_wp2
          go_ret
          exact ⟨congrArg (fun d : Int => Ending.returned (.int .i64 (d))) HE.out, HB.out.trans (by (refine Below.mono (B := (World.heap _).size) ?_ sb; (repeat (first | with_reducible exact Below.rf _ | with_reducible exact World.below_ext _ _ | with_reducible refine Below.ex ?_ _ | with_reducible refine Below.al ?_ _ | with_reducible refine Below.setCell ?_ (by simp) _ | with_reducible refine Below.drew ?_))))⟩
        · have b2 : ((x.2.2 : Int) == t) = false := by simp [h2]
          rw [if_neg (fun h => h2 h.2)] at heq
          have HE := hid heq
          clear heq h1 h2
          go_wp2
          go_roundw
          case rel => exact ⟨i + 1, by go_num, by omega, HE.out, HB.out.trans (by (refine Below.mono (B := (World.heap _).size) ?_ sb; (repeat (first | with_reducible exact Below.rf _ | with_reducible exact World.below_ext _ _ | with_reducible refine Below.ex ?_ _ | with_reducible refine Below.al ?_ _ | with_reducible refine Below.setCell ?_ (by simp) _ | with_reducible refine Below.drew ?_))))⟩
          case measure => simp [intOf]; omega
      · have b1 : ((x.1 : Int) == (r : Int)) = false := by simp; omega
        rw [if_neg (fun h => h1 h.1)] at heq
        have HE := hid heq
        clear heq h1
        go_wp2
        go_roundw
        case rel => exact ⟨i + 1, by go_num, by omega, HE.out, HB.out.trans (by (refine Below.mono (B := (World.heap _).size) ?_ sb; (repeat (first | with_reducible exact Below.rf _ | with_reducible exact World.below_ext _ _ | with_reducible refine Below.ex ?_ _ | with_reducible refine Below.al ?_ _ | with_reducible refine Below.setCell ?_ (by simp) _ | with_reducible refine Below.drew ?_))))⟩
        case measure => simp [intOf]; omega
    · have hnil : S.tr.drop i = [] := List.drop_eq_nil_of_le (by rw [HTL.out]; omega)
      rw [hnil] at heq
      simp only [trF] at heq
      have HE := hid heq
      have a6 : _ := World.cell?_of_block (hB.block m lt) |>.trans A6.out
      have lt2 : m < _ := Nat.lt_of_lt_of_le lt sb
      clear heq hB
      go_wp2
      go_loopw [38] (fun x wz => ∃ i : Nat, x = .int .i64 (i) ∧ i ≤ sl ∧ (match spF (S.sp.drop i) r t with | some c => (c : Int) | none => -1) = res ∧ Below w.heap.size w wz) (fun x _ => sl - (intOf x).toNat)
      case atStart => exact ⟨0, rfl, by omega, HE.out, HB.out⟩
      case round =>
        clear a6 lt2 HB sb
        obtain ⟨j, rfl, hj, heq, hB⟩ := hrel
        have HB := hid hB
        have sb := hB.size
        by_cases hlt2 : j < sl
        · have hkl : j < S.sp.length := by rw [HSL.out]; exact hlt2
          have hx : S.sp[j]? = some S.sp[j] := List.getElem?_eq_getElem hkl
          rw [List.drop_eq_getElem_cons hkl] at heq
          have hxb := HH.out.bs.2 _ (List.getElem_mem hkl)
          generalize S.sp[j] = x at hx heq hxb
          obtain ⟨y0, y1, y2, y3⟩ := qrow_at _ j x hx
          obtain ⟨ao', cap', e1, -, e2⟩ := L6.out.below hB
          simp only [Value.slice.injEq, true_and] at e1
          obtain ⟨rfl, rfl⟩ := e1
          rcases e2 with e2 | ⟨bb, rfl, hb1, hb2, hcc⟩
          · omega
          have p0 := hcc _ _ y0
          have p1 := hcc _ _ y1
          have p2 := hcc _ _ y2
          have p3 := hcc _ _ y3
          rw [Nat.mul_comm 4] at p0 p1 p2 p3
          simp only [spF] at heq
          clear hx hkl y0 y1 y2 y3 hcc hB
          by_cases h1 : x.1 = r
          · have b1 : ((x.1 : Int) == (r : Int)) = true := by simp [h1]
            by_cases h2 : (x.2.2.1 : Int) ≤ t
            · have b2 : decide ((x.2.2.1 : Int) ≤ t) = true := decide_eq_true h2
              by_cases h3 : t < (x.2.2.2 : Int)
              · have b3 : decide (t < (x.2.2.2 : Int)) = true := decide_eq_true h3
                rw [if_pos ⟨h1, h2, h3⟩] at heq
                have HE := hid heq
                clear heq h1
                go_wp2
                go_ret
                exact ⟨congrArg (fun d : Int => Ending.returned (.int .i64 (d))) HE.out, HB.out.trans (by (refine Below.mono (B := (World.heap _).size) ?_ sb; (repeat (first | with_reducible exact Below.rf _ | with_reducible exact World.below_ext _ _ | with_reducible refine Below.ex ?_ _ | with_reducible refine Below.al ?_ _ | with_reducible refine Below.setCell ?_ (by simp) _ | with_reducible refine Below.drew ?_))))⟩
              · have b3 : decide (t < (x.2.2.2 : Int)) = false := decide_eq_false h3
                rw [if_neg (fun h => h3 h.2.2)] at heq
                have HE := hid heq
                clear heq h1
                go_wp2
                go_roundw
                case rel => exact ⟨j + 1, by go_num, by omega, HE.out, HB.out.trans (by (refine Below.mono (B := (World.heap _).size) ?_ sb; (repeat (first | with_reducible exact Below.rf _ | with_reducible exact World.below_ext _ _ | with_reducible refine Below.ex ?_ _ | with_reducible refine Below.al ?_ _ | with_reducible refine Below.setCell ?_ (by simp) _ | with_reducible refine Below.drew ?_))))⟩
                case measure => simp [intOf]; omega
            · have b2 : decide ((x.2.2.1 : Int) ≤ t) = false := decide_eq_false h2
              rw [if_neg (fun h => h2 h.2.1)] at heq
              have HE := hid heq
              clear heq h1
              go_wp2
              go_roundw
              case rel => exact ⟨j + 1, by go_num, by omega, HE.out, HB.out.trans (by (refine Below.mono (B := (World.heap _).size) ?_ sb; (repeat (first | with_reducible exact Below.rf _ | with_reducible exact World.below_ext _ _ | with_reducible refine Below.ex ?_ _ | with_reducible refine Below.al ?_ _ | with_reducible refine Below.setCell ?_ (by simp) _ | with_reducible refine Below.drew ?_))))⟩
              case measure => simp [intOf]; omega
          · have b1 : ((x.1 : Int) == (r : Int)) = false := by simp; omega
            rw [if_neg (fun h => h1 h.1)] at heq
            have HE := hid heq
            clear heq h1
            go_wp2
            go_roundw
            case rel => exact ⟨j + 1, by go_num, by omega, HE.out, HB.out.trans (by (refine Below.mono (B := (World.heap _).size) ?_ sb; (repeat (first | with_reducible exact Below.rf _ | with_reducible exact World.below_ext _ _ | with_reducible refine Below.ex ?_ _ | with_reducible refine Below.al ?_ _ | with_reducible refine Below.setCell ?_ (by simp) _ | with_reducible refine Below.drew ?_))))⟩
            case measure => simp [intOf]; omega
        · have hnil : S.sp.drop j = [] := List.drop_eq_nil_of_le (by rw [HSL.out]; omega)
          rw [hnil] at heq
          simp only [spF] at heq
          have HE := hid heq
          clear heq hB
          go_wp2
          go_ret
          exact ⟨congrArg (fun d : Int => Ending.returned (.int .i64 (d))) HE.out, HB.out⟩
end Go.Proofs.Qxb6500717aGreat
