/-
  dwellsInOrder: the walk.
-/
import Derived.Test.Qxb6500716aSm
import Derived.Test.Qxb6500716aPt
import Derived.Test.Qxb6500716aDa
namespace Go.Proofs.Qxb6500716a
open Go.RowKit Go.Maps
set_option linter.unusedSimpArgs false
set_option linter.unusedVariables false
set_option maxRecDepth 20000
set_option maxHeartbeats 4000000
def onP (path : List Int) (t0 c : Int) : Int → Nat → Bool
  | _, 0 => true
  | t, k + 1 => if path.getD (t - t0).toNat 0 = c then onP path t0 c (t + 1) k else false
/-- The dwells, from a goal on. -/
def dwl (path : List Int) (t0 arr : Int) : Int → List (Int × Int) → List Int → Bool
  | e, g :: gl, d :: ds => if d - g.2 < e ∨ arr < d then false else if onP path t0 g.1 (d - g.2) (g.2 + 1).toNat = true then dwl path t0 arr d gl ds else false
  | _, _, _ => true
set_option maxHeartbeats 8000000 in
theorem dwells_any (q : Rq) (gv pv dv : Value) (c t x : Int) (path done : List Int) (lab : Nat → Nat) (w : World) (hg : GAt w lab gv q.gl) (hp : Ints w lab pv path) (hd : Ints w lab dv done) (hl : done.length = q.gl.length) (hpl : 1 ≤ path.length ∧ path.length ≤ 1000) (ht : -4000000000 ≤ t ∧ t ≤ 4000000000) (hgb : ∀ g, g ∈ q.gl → 0 ≤ g.2 ∧ g.2 ≤ 64) (hdb : ∀ d, d ∈ done → -8000000000 ≤ d ∧ d ≤ 8000000000) :
    Calls Try.prog 70 #[.agg #[.int .i64 ((q).r), .int .i64 ((q).s), .int .i64 ((q).t), gv, .int .i64 ((q).h), .int .i64 ((q).m)], .agg #[.int .u8 (c), .int .i64 (t), pv, dv, .int .i64 (x)]] w fun e w' => e = .returned (.bool (dwl path t (t + path.length - 1) t q.gl done)) ∧ ∃ z, w' = w.ext z := by
  obtain ⟨go, gc, hgv, hgcc⟩ := hg.ex
  obtain ⟨po, pc, hpv, hpcc⟩ := hp.ex
  obtain ⟨dq, dc, hdv, hdcc⟩ := hd.ex
  have hgl := hg.len
  obtain ⟨pn, hpn⟩ : ∃ y, path.length = y := ⟨_, rfl⟩
  obtain ⟨dn, hdn⟩ : ∃ y, q.gl.length = y := ⟨_, rfl⟩
  rw [hdn] at hgv hl hgl
  rw [hpn] at hpv hpl ⊢
  rw [hl] at hdv
  have HG := hid hg
  have HP := hid hp
  have HD := hid hd
  have HPN := hid hpn
  have HDN := hid hdn
  have HDL := hid hl
  have HGB := hid hgb
  have HDB := hid hdb
  obtain ⟨arr, harr⟩ : ∃ y : Int, t + (pn : Int) - 1 = y := ⟨_, rfl⟩
  have harr2 : arr = t + pn - 1 := harr.symm
  have AR : Hid (∀ w' : World, Calls Try.prog 36 #[.agg #[.int .u8 (c), .int .i64 (t), .slice po pn pc, .slice dq dn dc, .int .i64 (x)]] w' fun e w'' => e = .returned (.int .i64 (arr)) ∧ ∃ z, w'' = w'.ext z) := fun w' => by
    have := arrival_any c t x po pn pc (.slice dq dn dc) w' ht (by omega)
    rw [harr] at this
    exact this
  rw [harr]
  have harr3 : t ≤ arr + 1 ∧ arr ≤ t + 1000 := by omega
  have HARR := hid harr2
  subst hgv hpv hdv
  obtain ⟨res, hres⟩ : ∃ y, dwl path t arr t q.gl done = y := ⟨_, rfl⟩
  rw [hres]
  have HR := hid hres
  clear hg hp hd hpn hdn hl hgb hdb hres harr harr2
  go_enter Try.func70, Try.ntmps70
  go_wp2
  refine wp_nm fun w1 hw1 => ?_
  have B1 : Below w.heap.size w w1 := by rw [hw1]; (repeat (first | with_reducible exact Below.rf _ | with_reducible exact World.below_ext _ _ | with_reducible refine Below.ex ?_ _ | with_reducible refine Below.al ?_ _ | with_reducible refine Below.setCell ?_ (by simp) _ | with_reducible refine Below.drew ?_))
  have c0 : w1.cell? ⟨w.heap.size + 1, 0, none⟩ = some (.int .u8 c) := by rw [hw1]; simp [go_sem, ↓IntWalk.iteOmega]
  have c1 : w1.cell? ⟨w.heap.size + 1, 1, none⟩ = some (.int .i64 (t)) := by rw [hw1]; simp [go_sem, ↓IntWalk.iteOmega]
  have c2 : w1.cell? ⟨w.heap.size + 1, 2, none⟩ = some (.slice po pn pc) := by rw [hw1]; simp [go_sem, ↓IntWalk.iteOmega]
  have c3 : w1.cell? ⟨w.heap.size + 1, 3, none⟩ = some (.slice dq dn dc) := by rw [hw1]; simp [go_sem, ↓IntWalk.iteOmega]
  have c4 : w1.cell? ⟨w.heap.size + 1, 4, none⟩ = some (.int .i64 (x)) := by rw [hw1]; simp [go_sem, ↓IntWalk.iteOmega]
  have hs1 : w.heap.size + 1 < w1.heap.size := by rw [hw1]; simp
  obtain ⟨b1, hb1⟩ : ∃ y, w.heap.size + 1 = y := ⟨_, rfl⟩
  rw [hb1] at c0 c1 c2 c3 c4 hs1 ⊢
  have HB1 := hid B1
  clear hw1 B1 hb1
  go_loopw [5, 16] (fun y v wr => ∃ (e : Int) (k : Nat), y = .int .i64 (e) ∧ v = .int .i64 (k) ∧ k ≤ dn ∧ t ≤ e ∧ dwl path t arr e (q.gl.drop k) (done.drop k) = res ∧ Below w1.heap.size w1 wr) (fun _ v _ => dn - (intOf v).toNat)
  case atStart => exact ⟨t, 0, rfl, rfl, Nat.zero_le _, Int.le_refl _, by simpa using HR.out, Below.rf _⟩
  case round =>
    obtain ⟨e, k, rfl, rfl, hk, het, heq, hB⟩ := hrel
    have HB := hid hB
    have HEQ := hid heq
    have q3 : (wr).cell? ⟨b1, 1, none⟩ = some (.int .i64 (t)) := (World.cell?_of_block (hB.block b1 (by omega))).trans c1
    have q4 : (wr).cell? ⟨b1, 2, none⟩ = some (.slice po pn pc) := (World.cell?_of_block (hB.block b1 (by omega))).trans c2
    have q5 : (wr).cell? ⟨b1, 3, none⟩ = some (.slice dq dn dc) := (World.cell?_of_block (hB.block b1 (by omega))).trans c3
    have q6 : (wr).cell? ⟨b1, 0, none⟩ = some (.int .u8 c) := (World.cell?_of_block (hB.block b1 (by omega))).trans c0
    have q7 : (wr).cell? ⟨b1, 4, none⟩ = some (.int .i64 (x)) := (World.cell?_of_block (hB.block b1 (by omega))).trans c4
    have hbl : b1 < wr.heap.size := Nat.lt_of_lt_of_le hs1 hB.size
    by_cases hkn : k < dn
    · have dk : decide ((k : Int) < (dn : Int)) = true := by simp; omega
      have dkn : decide (k < dn) = true := by simp; omega
      have hb0 := HB1.out.trans (hB.mono HB1.out.size)
      have hkg : k < q.gl.length := by rw [HDN.out]; exact hkn
      have hkd : k < done.length := by rw [HDL.out]; exact hkn
      have hgx : q.gl[k]? = some q.gl[k] := List.getElem?_eq_getElem hkg
      have hdx : done[k]? = some done[k] := List.getElem?_eq_getElem hkd
      have hgb := HGB.out _ (List.getElem_mem hkg)
      have hdb := HDB.out _ (List.getElem_mem hkd)
      rw [List.drop_eq_getElem_cons hkg, List.drop_eq_getElem_cons hkd, dwl] at heq
      generalize q.gl[k] = g at *
      generalize done[k] = dd at *
      obtain ⟨gc1, gd0⟩ := g
      simp only at hgb heq
      obtain ⟨gd, rfl⟩ : ∃ y : Nat, gd0 = y := ⟨gd0.toNat, by omega⟩
      rw [show ((gd : Int) + 1).toNat = gd + 1 by omega] at heq
      obtain ⟨gb, gn', gcap, hgv2, hgbl, -, y0, y1⟩ := (HG.out.below hb0).row k _ hgx
      obtain ⟨db, da, dn', dcap, hdv2, hdbl, -, y2⟩ := HD.out.row k _ hdx
      simp only [Value.slice.injEq] at hgv2 hdv2
      obtain ⟨rfl, -, -⟩ := hgv2
      obtain ⟨rfl, -, -⟩ := hdv2
      simp only at y0 y1
      have y3 := (World.cell?_of_block (hb0.block db hdbl)).trans y2
      have hdl3 := Nat.lt_of_lt_of_le hdbl hb0.size
      have HEQ2 := hid heq
      clear hgx hdx hkg hkd heq HEQ hb0 y2 hdbl
      go_wp2
      refine wp_nm fun w3 hw3 => ?_
      have hb3 : Below wr.heap.size wr w3 := by rw [hw3]; (repeat (first | with_reducible exact Below.rf _ | with_reducible exact World.below_ext _ _ | with_reducible refine Below.ex ?_ _ | with_reducible refine Below.al ?_ _ | with_reducible refine Below.setCell ?_ (by simp) _ | with_reducible refine Below.drew ?_))
      obtain ⟨tb, htb⟩ : ∃ y, wr.heap.size = y := ⟨_, rfl⟩
      have t0 : w3.cell? ⟨wr.heap.size, 0, none⟩ = some (.int .i64 (gc1)) := by rw [hw3]; simp [go_sem, ↓IntWalk.iteOmega]
      have t1 : w3.cell? ⟨wr.heap.size, 1, none⟩ = some (.int .i64 (gd)) := by rw [hw3]; simp [go_sem, ↓IntWalk.iteOmega]
      have htl : wr.heap.size < w3.heap.size := by rw [hw3]; simp
      rw [htb] at t0 t1 htl ⊢
      have q3' := (World.cell?_of_block (hb3.block b1 hbl)).trans q3
      have q4' := (World.cell?_of_block (hb3.block b1 hbl)).trans q4
      have q5' := (World.cell?_of_block (hb3.block b1 hbl)).trans q5
      have q6' := (World.cell?_of_block (hb3.block b1 hbl)).trans q6
      have q7' := (World.cell?_of_block (hb3.block b1 hbl)).trans q7
      have y3' := (World.cell?_of_block (hb3.block db hdl3)).trans y3
      have hdl4 := Nat.lt_of_lt_of_le hdl3 hb3.size
      have hbl3 := Nat.lt_of_lt_of_le hbl hb3.size
      have HB3 : Hid (Below w1.heap.size w1 w3) := HB.out.trans (hb3.mono HB.out.size)
      have f1 : IntKind.i64.wrap (dd - (gd : Int)) = dd - (gd : Int) := by simp [IntKind.wrap, IntKind.bits, IntKind.signed]; omega
      obtain ⟨wo, rfl⟩ : ∃ y, y = wr := ⟨_, rfl⟩
      clear hw3 hb3 q3 q4 q5 q6 q7 y0 y1 y3 hgbl hdl3 hbl HB hB htb
      --BEGIN 2
      first | with_reducible refine wp_region_ext2 (by kernel_rfl) (by kernel_rfl) ?_ | refine wp_region_ext (by kernel_rfl) (by kernel_rfl) ?_
      repeat (go_big_quiet_step (fail))
      refine wpQuiet_nil ?_
      rintro w4 ⟨z, hw2⟩
      have hb4 : Below w3.heap.size w3 w4 := by rw [hw2]; exact World.below_ext w3 _
      have q3 := (World.cell?_of_block (hb4.block b1 hbl3)).trans q3'
      have q4 := (World.cell?_of_block (hb4.block b1 hbl3)).trans q4'
      have q5 := (World.cell?_of_block (hb4.block b1 hbl3)).trans q5'
      have q6 := (World.cell?_of_block (hb4.block b1 hbl3)).trans q6'
      have q7 := (World.cell?_of_block (hb4.block b1 hbl3)).trans q7'
      have t0' := (World.cell?_of_block (hb4.block tb htl)).trans t0
      have hbl4 := Nat.lt_of_lt_of_le hbl3 hb4.size
      have htl4 := Nat.lt_of_lt_of_le htl hb4.size
      have HB4 : Hid (Below w1.heap.size w1 w4) := HB3.out.trans (hb4.mono HB3.out.size)
      clear hw2 hb4 q3' q4' q5' q6' q7' t0 t1 htl y3' hdl4 hbl3 HB3
      by_cases h1 : dd - (gd : Int) < e
      · have d1 : decide (dd - (gd : Int) < e) = true := by simp [h1]
        have HE2 : Hid (false = res) := by
          have := HEQ2.out
          rw [if_pos (Or.inl h1)] at this
          exact this
        clear HEQ2
        go_wp2
        go_ret
        exact ⟨by rw [← HE2.out]; rfl, (HB1.out.trans (HB4.out.mono HB1.out.size)).is_ext⟩
      have d1 : decide (dd - (gd : Int) < e) = false := by simp; omega
      by_cases h2 : arr < dd
      · have d2 : decide (arr < dd) = true := by simp [h2]
        have HE2 : Hid (false = res) := by
          have := HEQ2.out
          rw [if_pos (Or.inr h2)] at this
          exact this
        clear HEQ2
        go_wp2_with (first | (go_at_call 36; refine (AR.out _).mono ?_; rintro e w' ⟨rfl, z, rfl⟩))
        go_ret
        exact ⟨by rw [← HE2.out]; rfl, (HB1.out.trans ((HB4.out.trans (Below.mono (by (repeat (first | with_reducible exact Below.rf _ | with_reducible exact World.below_ext _ _ | with_reducible refine Below.ex ?_ _ | with_reducible refine Below.al ?_ _ | with_reducible refine Below.setCell ?_ (by simp) _ | with_reducible refine Below.drew ?_))) HB4.out.size)).mono HB1.out.size)).is_ext⟩
      have d2 : decide (arr < dd) = false := by simp; omega
      obtain ⟨po', hpo'⟩ : ∃ y, onP path t gc1 (dd - (gd : Int)) (gd + 1) = y := ⟨_, rfl⟩
      have HE3 : Hid ((if po' = true then dwl path t arr dd (q.gl.drop (k + 1)) (done.drop (k + 1)) else false) = res) := by
        have := HEQ2.out
        rw [if_neg (by omega), hpo'] at this
        exact this
      have HPO := hid hpo'
      clear HEQ2 hpo'
      go_wp2_with (first | (go_at_call 36; refine (AR.out _).mono ?_; rintro e w' ⟨rfl, z, rfl⟩))
      go_loopw [10] (fun v wr => ∃ j : Nat, v = .int .i64 (dd - (gd : Int) + j) ∧ j ≤ gd + 1 ∧ onP path t gc1 (dd - (gd : Int) + j) (gd + 1 - j) = po' ∧ Below w4.heap.size w4 wr) (fun v _ => gd + 1 - (intOf v - (dd - (gd : Int))).toNat)
      case atStart => exact ⟨0, by go_num, Nat.zero_le _, by simpa using HPO.out, World.below_ext w4 z⟩
      case round =>
        obtain ⟨j, rfl, hj, hon, hB⟩ := hrel
        have HB := hid hB
        have u3 := (World.cell?_of_block (hB.block b1 hbl4)).trans q3
        have u4 := (World.cell?_of_block (hB.block b1 hbl4)).trans q4
        have ut := (World.cell?_of_block (hB.block tb htl4)).trans t0'
        have hbl5 := Nat.lt_of_lt_of_le hbl4 hB.size
        have htl5 := Nat.lt_of_lt_of_le htl4 hB.size
        have hball : Below w.heap.size w wr := HB1.out.trans ((HB4.out.trans (hB.mono HB4.out.size)).mono HB1.out.size)
        have HBA := hid hball
        by_cases hjn : j < gd + 1
        · have dj : decide (dd - (gd : Int) + (j : Int) ≤ dd) = true := by simp; omega
          obtain ⟨mi, hmi⟩ : ∃ y : Nat, dd - (gd : Int) + (j : Int) - t = y := ⟨(dd - (gd : Int) + (j : Int) - t).toNat, by omega⟩
          have hmn : mi < pn := by have := HARR.out; omega
          have hml : mi < path.length := by rw [HPN.out]; exact hmn
          have hmx : path[mi]? = some path[mi] := List.getElem?_eq_getElem hml
          obtain ⟨jj, hjj⟩ : ∃ y, gd + 1 - j = y + 1 := ⟨gd - j, by omega⟩
          have hjj2 : gd + 1 - (j + 1) = jj := by omega
          rw [hjj, onP, hmi, Int.toNat_natCast, List.getD_eq_getElem?_getD, hmx, Option.getD_some] at hon
          generalize path[mi] = y at *
          obtain ⟨bk, ba, n9, cap9, hv9, hbk, -, e9⟩ := HP.out.row mi y hmx
          simp only [Value.slice.injEq] at hv9
          obtain ⟨rfl, -, -⟩ := hv9
          have e9' := (World.cell?_of_block (hball.block bk hbk)).trans e9
          have hbk9 := Nat.lt_of_lt_of_le hbk hball.size
          have dmn : decide (mi < pn) = true := by simp [hmn]
          have f2 : IntKind.i64.wrap (mi : Int) = (mi : Int) := by simp [IntKind.wrap, IntKind.bits, IntKind.signed]; omega
          by_cases hy : y = gc1
          · have dy : (y != gc1) = false := by simp [hy]
            have HON : Hid (onP path t gc1 (dd - (gd : Int) + ((j + 1 : Nat) : Int)) (gd + 1 - (j + 1)) = po') := by
              unfold Hid
              rw [if_pos hy] at hon
              rw [hjj2, ← hon]
              congr 1
              omega
            clear hon hjj hjj2 hmx hml hy e9 hbk hball hB
            go_wp2
            first | with_reducible refine wp_region_ext2 (by kernel_rfl) (by kernel_rfl) ?_ | refine wp_region_ext (by kernel_rfl) (by kernel_rfl) ?_
            repeat (go_big_quiet_step (fail))
            refine wpQuiet_nil ?_
            rintro w6 ⟨z, hw2⟩
            have HB6 : Hid (Below w4.heap.size w4 w6) := HB.out.trans (Below.mono (by rw [hw2]; exact World.below_ext wr _) HB.out.size)
            clear hw2 hmi
            go_wp2
            go_roundw
            case rel => exact ⟨j + 1, by go_num, by omega, HON.out, HB6.out⟩
            case measure => (simp [intOf] <;> omega)
          · have dy : (y != gc1) = true := by simp [hy]
            have HE2 : Hid (false = res) := by
              have := HE3.out
              rw [if_neg hy] at hon
              rw [← hon, if_neg (by simp)] at this
              exact this
            clear hon hjj hjj2 hmx hml hy e9 hbk hball hB
            go_wp2
            first | with_reducible refine wp_region_ext2 (by kernel_rfl) (by kernel_rfl) ?_ | refine wp_region_ext (by kernel_rfl) (by kernel_rfl) ?_
            repeat (go_big_quiet_step (fail))
            refine wpQuiet_nil ?_
            rintro w6 ⟨z, hw2⟩
            have HB6 : Hid (Below w.heap.size w w6) := HBA.out.trans (Below.mono (by rw [hw2]; exact World.below_ext wr _) HBA.out.size)
            clear hw2 hmi
            go_wp2
            go_ret
            exact ⟨by rw [← HE2.out]; rfl, HB6.out.is_ext⟩
        · have dj : decide (dd - (gd : Int) + (j : Int) ≤ dd) = false := by simp; omega
          have HE2 : Hid (dwl path t arr dd (q.gl.drop (k + 1)) (done.drop (k + 1)) = res) := by
            have := HE3.out
            rw [show gd + 1 - j = 0 by omega, onP] at hon
            rw [← hon, if_pos rfl] at this
            exact this
          have HBW : Hid (Below w1.heap.size w1 wr) := HB4.out.trans (hB.mono HB4.out.size)
          clear hon hB hball
          go_wp2
          go_roundw
          case rel => exact ⟨dd, k + 1, rfl, by go_num, by omega, by omega, HE2.out, HBW.out⟩
          case measure => (simp [intOf] <;> omega)
      --END 2
    · --BEGIN 1
      have dk : decide ((k : Int) < (dn : Int)) = false := by simp; omega
      have dkn : decide (k < dn) = false := by simp; omega
      have HE2 : Hid (true = res) := by
        have := HEQ.out
        rw [List.drop_eq_nil_of_le (by rw [HDN.out]; omega)] at this
        unfold dwl at this
        exact this
      clear heq hB HEQ
      go_wp2
      go_ret
      exact ⟨by rw [← HE2.out]; rfl, (HB1.out.trans (HB.out.mono HB1.out.size)).is_ext⟩
      --END 1
end Go.Proofs.Qxb6500716a
