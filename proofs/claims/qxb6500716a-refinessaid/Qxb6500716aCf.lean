/-
  conflicts: the walk.
-/
import Derived.Test.Qxb6500716aVu
namespace Go.Proofs.Qxb6500716a
open Go.RowKit Go.Maps
set_option linter.unusedSimpArgs false
set_option linter.unusedVariables false
set_option maxRecDepth 20000
set_option maxHeartbeats 4000000
/-- A plan in a block of its own. -/
structure Bx (w : World) (b : Nat) (c t x : Int) (pv dv : Value) : Prop where
  c0 : w.cell? ⟨b, 0, none⟩ = some (.int .u8 c)
  c1 : w.cell? ⟨b, 1, none⟩ = some (.int .i64 (t))
  c2 : w.cell? ⟨b, 2, none⟩ = some pv
  c3 : w.cell? ⟨b, 3, none⟩ = some dv
  c4 : w.cell? ⟨b, 4, none⟩ = some (.int .i64 (x))
  lt : b < w.heap.size
theorem Bx.below {w w' : World} {b : Nat} {c t x : Int} {pv dv : Value} (h : Bx w b c t x pv dv) (hb : Below w.heap.size w w') : Bx w' b c t x pv dv :=
  ⟨(World.cell?_of_block (hb.block b h.lt)).trans h.c0, (World.cell?_of_block (hb.block b h.lt)).trans h.c1, (World.cell?_of_block (hb.block b h.lt)).trans h.c2, (World.cell?_of_block (hb.block b h.lt)).trans h.c3, (World.cell?_of_block (hb.block b h.lt)).trans h.c4, Nat.lt_of_lt_of_le h.lt hb.size⟩
theorem ints_at {w w' : World} {lab : Nat → Nat} {po : Option Addr} {pn pc : Nat} {l : List Int} (h : Ints w lab (.slice po pn pc) l) (hb : Below w.heap.size w w') {i : Nat} (hi : i < l.length) : ∃ b a, po = some ⟨b, a, none⟩ ∧ b < w'.heap.size ∧ w'.cell? ⟨b, a + i, none⟩ = some (.int .i64 (l.getD i 0)) := by
  have hx : l[i]? = some l[i] := List.getElem?_eq_getElem hi
  obtain ⟨bk, ba, n9, cap9, hv9, hbk, -, e9⟩ := h.row i _ hx
  simp only [Value.slice.injEq] at hv9
  refine ⟨bk, ba, hv9.1, Nat.lt_of_lt_of_le hbk hb.size, ?_⟩
  rw [(World.cell?_of_block (hb.block bk hbk)).trans e9, List.getD_eq_getElem?_getD, hx]
  rfl
set_option maxHeartbeats 8000000 in
theorem conflicts_any (M : TM) (T : TS) (N : PM) (S : PS) (n fb : Nat) (lab : Nat → Nat) (r c t x : Int) (pv dv : Value) (path done : List Int) (w : World) (hT : TAt w lab M T) (hP : PAt w lab N fb M.t S n) (hr : I64 r) (hp : Ints w lab pv path) (hd : Ints w lab dv done) (hpl : 1 ≤ path.length ∧ path.length ≤ 1000) (ht : -4000000000 ≤ t ∧ t ≤ 4000000000) (hpb : ∀ i, I64 (path.getD i 0)) :
    Calls Try.prog 71 #[.pointer (some ⟨N.p, 0, none⟩), .int .i64 (r), .agg #[.int .u8 (c), .int .i64 (t), pv, dv, .int .i64 (x)]] w fun e w' => e = .returned (.int .i64 (cfl T r t path)) ∧ ∃ z, w' = w.ext z := by
  obtain ⟨po, pc, hpv, hpcc⟩ := hp.ex
  obtain ⟨dq, dc, hdv, hdcc⟩ := hd.ex
  obtain ⟨pn, hpn⟩ : ∃ y, path.length = y := ⟨_, rfl⟩
  obtain ⟨dn, hdn⟩ : ∃ y, done.length = y := ⟨_, rfl⟩
  rw [hpn] at hpv hpl
  rw [hdn] at hdv
  subst hpv hdv
  unfold cfl
  rw [hpn]
  have HP := hid hp
  have HPN := hid hpn
  have HT := hid hT
  have HPB := hid hpb
  have hat := at_bd hT.bd hT.bm.bd r (t - 1)
  have HR := hid hr
  obtain ⟨pr, hpr⟩ : ∃ y, T.at r (t - 1) = y := ⟨_, rfl⟩
  obtain ⟨x0, hx0⟩ : ∃ y, path.getD 0 0 = y := ⟨_, rfl⟩
  obtain ⟨xl, hxl⟩ : ∃ y, path.getD (pn - 1) 0 = y := ⟨_, rfl⟩
  obtain ⟨ff, hff⟩ : ∃ y, T.freeF r xl (t + (pn : Int) - 1) = y := ⟨_, rfl⟩
  obtain ⟨fm, hfm⟩ : ∃ y, T.freeM r pr x0 (t - 1) = y := ⟨_, rfl⟩
  obtain ⟨r1, hr1⟩ : ∃ y, cfC T r t path = y := ⟨_, rfl⟩
  obtain ⟨r2, hr2⟩ : ∃ y, cfM T r t x0 (path.drop 1) = y := ⟨_, rfl⟩
  rw [hx0, hxl, hpr, hff, hfm, hr1, hr2]
  rw [hpr] at hat
  obtain ⟨res, hres⟩ : ∃ y, (if r1 = false then (7 : Int) else if ff = false then 7 else if pr ≠ -1 ∧ fm = false then 8 else if r2 = false then 8 else 0) = y := ⟨_, rfl⟩
  rw [hres]
  have HRS := hid hres
  have HR1 := hid hr1
  have HR2 := hid hr2
  have HX0 := hid hx0
  have HXL := hid hxl
  have AR : Hid (∀ w' : World, Calls Try.prog 36 #[.agg #[.int .u8 (c), .int .i64 (t), .slice po pn pc, .slice dq dn dc, .int .i64 (x)]] w' fun e w'' => e = .returned (.int .i64 (t + (pn : Int) - 1)) ∧ ∃ z, w'' = w'.ext z) := fun w' => arrival_any c t x po pn pc (.slice dq dn dc) w' ht (by omega)
  have AT : Hid (∀ w' : World, Below w.heap.size w w' → Calls Try.prog 24 #[.pointer (some ⟨M.t, 0, none⟩), .int .i64 (r), .int .i64 (t - 1)] w' fun e w'' => e = .returned (.int .i64 (pr)) ∧ ∃ z, w'' = w'.ext z) := fun w' h => by
    have := at_any M T lab r (t - 1) w' (HT.out.below h) hr (by unfold I64; omega)
    rw [hpr] at this
    exact this
  have FF : Hid (∀ w' : World, Below w.heap.size w w' → Calls Try.prog 58 #[.pointer (some ⟨M.t, 0, none⟩), .int .i64 (r), .int .i64 (xl), .int .i64 (t + (pn : Int) - 1)] w' fun e w'' => e = .returned (.bool ff) ∧ ∃ z, w'' = w'.ext z) := fun w' h => by
    have := freeF_any M T lab r xl (t + (pn : Int) - 1) w' (HT.out.below h)
    rw [hff] at this
    exact this
  have FM : Hid (∀ w' : World, Below w.heap.size w w' → Calls Try.prog 63 #[.pointer (some ⟨M.t, 0, none⟩), .int .i64 (r), .int .i64 (pr), .int .i64 (x0), .int .i64 (t - 1)] w' fun e w'' => e = .returned (.bool fm) ∧ ∃ z, w'' = w'.ext z) := fun w' h => by
    have := freeM_any M T lab r pr x0 (t - 1) w' (HT.out.below h) hr (by unfold I64; omega) (by rw [← hx0]; exact hpb 0) (by unfold I64; omega)
    rw [hfm] at this
    exact this
  have HPA := hid hP
  unfold I64 at hr
  clear hT hP hp hd hpn hdn hpb hpr hx0 hxl hff hfm hr1 hr2 hres
  go_enter Try.func71, Try.ntmps71
  go_wp2
  refine wp_nm fun w1 hw1 => ?_
  have hb1 : Below w.heap.size w w1 := by rw [hw1]; (repeat (first | with_reducible exact Below.rf _ | with_reducible exact World.below_ext _ _ | with_reducible refine Below.ex ?_ _ | with_reducible refine Below.al ?_ _ | with_reducible refine Below.setCell ?_ (by simp) _ | with_reducible refine Below.drew ?_))
  have HX : Hid (Bx w1 w.heap.size c t x (.slice po pn pc) (.slice dq dn dc)) := by
    unfold Hid
    refine ⟨?_, ?_, ?_, ?_, ?_, by rw [hw1]; simp⟩
    all_goals (rw [hw1]; simp [go_sem, ↓IntWalk.iteOmega])
  have HB1 := hid hb1
  have HPA := hid (HPA.out.below hb1)
  have HT := hid (HT.out.below hb1)
  obtain ⟨b1, hsb⟩ : ∃ y, w.heap.size = y := ⟨_, rfl⟩
  rw [hsb] at HX ⊢
  have AT := hid (fun (w' : World) (h : Below w1.heap.size w1 w') => AT.out w' (hb1.trans (h.mono hb1.size)))
  have FF := hid (fun (w' : World) (h : Below w1.heap.size w1 w') => FF.out w' (hb1.trans (h.mono hb1.size)))
  have FM := hid (fun (w' : World) (h : Below w1.heap.size w1 w') => FM.out w' (hb1.trans (h.mono hb1.size)))
  have HSB := hid hsb
  clear hw1 hb1 hsb
  go_loopw [14] (fun v wr => ∃ k : Nat, v = .int .i64 (k) ∧ k ≤ pn ∧ cfC T r (t + k) (path.drop k) = r1 ∧ Below w1.heap.size w1 wr) (fun v _ => pn - (intOf v).toNat)
  case atStart => exact ⟨0, rfl, Nat.zero_le _, by simpa using HR1.out, Below.rf _⟩
  case round =>
    obtain ⟨k, rfl, hk, heq, hB⟩ := hrel
    have hx := HX.out.below (w' := wr) hB
    have hP2 := (HPA.out.below (w' := wr) hB)
    have q0 := hx.c0
    have q1 := hx.c1
    have q2 := hx.c2
    have q3 := hx.c3
    have q4 := hx.c4
    have hbl := hx.lt
    have p1 := hP2.c1
    have hpl1 := hP2.bp.lt
    have HB := hid hB
    clear hx hP2
    by_cases hkn : k < pn
    · have dk : decide ((k : Int) < (pn : Int)) = true := by simp; omega
      have dkn : decide (k < pn) = true := by simp; omega
      have hkl : k < path.length := by rw [HPN.out]; exact hkn
      obtain ⟨bk, ba, hpo, hbk, e9⟩ := ints_at HP.out (HB1.out.trans (hB.mono HB1.out.size)) hkl
      rw [List.drop_eq_getElem_cons hkl, cfC, show path[k] = path.getD k 0 by rw [List.getD_eq_getElem?_getD, List.getElem?_eq_getElem hkl]; rfl] at heq
      have hyb := HPB.out k
      generalize path.getD k 0 = y at *
      obtain ⟨v, hv⟩ : ∃ v, T.freeC r y (t + k) = v := ⟨_, rfl⟩
      rw [hv] at heq
      have FC : Hid (∀ w' : World, Below wr.heap.size wr w' → Calls Try.prog 82 #[.pointer (some ⟨M.t, 0, none⟩), .int .i64 (r), .int .i64 (y), .int .i64 (t + (k : Int))] w' fun e w'' => e = .returned (.bool v) ∧ ∃ z, w'' = w'.ext z) := fun w' h => by
        have := freeC_any M T lab r y (t + k) w' (HT.out.below (HB.out.trans (h.mono HB.out.size))) HR.out hyb (by unfold I64; omega)
        rw [hv] at this
        exact this
      have f1 : IntKind.i64.wrap (t + (k : Int)) = t + (k : Int) := by simp [IntKind.wrap, IntKind.bits, IntKind.signed]; omega
      subst hpo
      unfold I64 at hyb
      have HEQ := hid heq
      clear heq hv hkl hB
      --BEGIN 1
      cases v with
      | true =>
        have HE : Hid (cfC T r (t + ((k + 1 : Nat) : Int)) (path.drop (k + 1)) = r1) := by
          unfold Hid
          have := HEQ.out
          rw [if_neg (by simp), show t + (k : Int) + 1 = t + ((k + 1 : Nat) : Int) by omega] at this
          exact this
        clear HEQ
        go_wp2
        first | with_reducible refine wp_region_ext2 (by kernel_rfl) (by kernel_rfl) ?_ | refine wp_region_ext (by kernel_rfl) (by kernel_rfl) ?_
        repeat (go_big_quiet_step ((go_at_call 82; with_reducible exact Calls.ext_of (FC.out _ (by (repeat (first | with_reducible exact Below.rf _ | with_reducible exact World.below_ext _ _ | with_reducible refine Below.ex ?_ _ | with_reducible refine Below.al ?_ _ | with_reducible refine Below.setCell ?_ (by simp) _ | with_reducible refine Below.drew ?_)))))))
        refine wpQuiet_nil ?_
        rintro w4 ⟨z, hw2⟩
        have HB4 : Hid (Below w1.heap.size w1 w4) := HB.out.trans (Below.mono (by rw [hw2]; exact World.below_ext _ _) HB.out.size)
        clear hw2
        go_wp2
        go_roundw
        case rel => exact ⟨k + 1, by go_num, by omega, HE.out, HB4.out⟩
        case measure => (simp [intOf] <;> omega)
      | false =>
        have HE2 : Hid ((7 : Int) = res) := by
          unfold Hid
          have h1 := HEQ.out
          have h2 := HRS.out
          rw [if_pos rfl] at h1
          rw [if_pos h1.symm] at h2
          exact h2
        clear HEQ
        go_wp2
        first | with_reducible refine wp_region_ext2 (by kernel_rfl) (by kernel_rfl) ?_ | refine wp_region_ext (by kernel_rfl) (by kernel_rfl) ?_
        repeat (go_big_quiet_step ((go_at_call 82; with_reducible exact Calls.ext_of (FC.out _ (by (repeat (first | with_reducible exact Below.rf _ | with_reducible exact World.below_ext _ _ | with_reducible refine Below.ex ?_ _ | with_reducible refine Below.al ?_ _ | with_reducible refine Below.setCell ?_ (by simp) _ | with_reducible refine Below.drew ?_)))))))
        refine wpQuiet_nil ?_
        rintro w4 ⟨z, hw2⟩
        go_wp2
        go_ret
        exact ⟨by rw [← HE2.out]; rfl, (HB1.out.trans ((HB.out.trans (Below.mono (by first | exact World.below_ext _ _ | (rw [hw2]; exact World.below_ext _ _)) HB.out.size)).mono HB1.out.size)).is_ext⟩
      --END 1
    · --BEGIN 2
      have dk : decide ((k : Int) < (pn : Int)) = false := by simp; omega
      have dkn : decide (k < pn) = false := by simp; omega
      have HRT : Hid (r1 = true) := by
        unfold Hid
        rw [← heq, List.drop_eq_nil_of_le (by rw [HPN.out]; omega)]
        rfl
      have hn1 : pn - 1 < path.length := by rw [HPN.out]; omega
      have hn0 : 0 < path.length := by rw [HPN.out]; omega
      obtain ⟨bk, ba, hpo, hbk, e0⟩ := ints_at HP.out (HB1.out.trans (hB.mono HB1.out.size)) hn0
      obtain ⟨bk', ba', hpo', -, e9⟩ := ints_at HP.out (HB1.out.trans (hB.mono HB1.out.size)) hn1
      rw [hpo] at hpo'
      simp only [Option.some.injEq, Addr.mk.injEq, and_true] at hpo'
      obtain ⟨rfl, rfl⟩ := hpo'
      rw [HXL.out] at e9
      rw [HX0.out] at e0
      have fw1 : IntKind.i64.wrap ((pn : Int) - 1) = (pn : Int) - 1 := by simp [IntKind.wrap, IntKind.bits, IntKind.signed]; omega
      obtain ⟨pm, hpm⟩ : ∃ y, pn = y + 1 := ⟨pn - 1, by omega⟩
      subst hpo hpm
      rw [show pm + 1 - 1 = pm from rfl] at e9
      have fw2 : ((pm + 1 : Nat) : Int) - 1 = (pm : Int) := by omega
      have AR2 : Hid (∀ w' : World, Calls Try.prog 36 #[.agg #[.int .u8 (c), .int .i64 (t), .slice (some ⟨bk, ba, none⟩) (pm + 1) pc, .slice dq dn dc, .int .i64 (x)]] w' fun e w'' => e = .returned (.int .i64 (t + (pm : Int))) ∧ ∃ z, w'' = w'.ext z) := fun w' => (AR.out w').mono (by rintro e w'' ⟨rfl, hz⟩; exact ⟨by congr 2; omega, hz⟩)
      have FF2 : Hid (∀ w' : World, Below w1.heap.size w1 w' → Calls Try.prog 58 #[.pointer (some ⟨M.t, 0, none⟩), .int .i64 (r), .int .i64 (xl), .int .i64 (t + (pm : Int))] w' fun e w'' => e = .returned (.bool ff) ∧ ∃ z, w'' = w'.ext z) := fun w' h => by
        have := FF.out w' h
        rw [show t + ((pm + 1 : Nat) : Int) - 1 = t + (pm : Int) by omega] at this
        exact this
      have FF3 := hid (fun (w' : World) (h : Below wr.heap.size wr w') => FF2.out w' (HB.out.trans (h.mono HB.out.size)))
      clear heq hB hn0 hn1 fw1 fw2 AR FF FF2
      go_wp2
      first | with_reducible refine wp_region_ext2 (by kernel_rfl) (by kernel_rfl) ?_ | refine wp_region_ext (by kernel_rfl) (by kernel_rfl) ?_
      repeat (go_big_quiet_step ((first | (go_at_call 58; with_reducible exact Calls.ext_of (FF3.out _ (by (repeat (first | with_reducible exact Below.rf _ | with_reducible exact World.below_ext _ _ | with_reducible refine Below.ex ?_ _ | with_reducible refine Below.al ?_ _ | with_reducible refine Below.setCell ?_ (by simp) _ | with_reducible refine Below.drew ?_))))) | (go_at_call 36; with_reducible exact Calls.ext_of (AR2.out _)))))
      refine wpQuiet_nil ?_
      rintro w4 ⟨z, hw2⟩
      cases ff with
      | false =>
        have HE2 : Hid ((7 : Int) = res) := by
          unfold Hid
          have h2 := HRS.out
          rw [HRT.out, if_neg (by simp), if_pos rfl] at h2
          exact h2
        go_wp2
        go_ret
        exact ⟨by rw [← HE2.out]; rfl, (HB1.out.trans ((HB.out.trans (Below.mono (by first | exact World.below_ext _ _ | (rw [hw2]; exact World.below_ext _ _)) HB.out.size)).mono HB1.out.size)).is_ext⟩
      | true =>
      have hB : Below w1.heap.size w1 w4 := HB.out.trans (Below.mono (by rw [hw2]; exact World.below_ext _ _) HB.out.size)
      clear hw2 q0 q1 q2 q3 q4 hbl p1 hpl1 HB FF3 AR2
      have hx := HX.out.below (w' := w4) hB
      have hP2 := (HPA.out.below (w' := w4) hB)
      have q0 := hx.c0
      have q1 := hx.c1
      have q2 := hx.c2
      have q3 := hx.c3
      have q4 := hx.c4
      have hbl := hx.lt
      have p1 := hP2.c1
      have hpl1 := hP2.bp.lt
      have HB := hid hB
      clear hx hP2
      have AT4 := hid (fun (w' : World) (h : Below w4.heap.size w4 w') => AT.out w' (HB.out.trans (h.mono HB.out.size)))
      clear hB AT
      go_wp2
      first | with_reducible refine wp_region_ext2 (by kernel_rfl) (by kernel_rfl) ?_ | refine wp_region_ext (by kernel_rfl) (by kernel_rfl) ?_
      repeat (go_big_quiet_step ((go_at_call 24; with_reducible exact Calls.ext_of (AT4.out _ (by (repeat (first | with_reducible exact Below.rf _ | with_reducible exact World.below_ext _ _ | with_reducible refine Below.ex ?_ _ | with_reducible refine Below.al ?_ _ | with_reducible refine Below.setCell ?_ (by simp) _ | with_reducible refine Below.drew ?_)))))))
      refine wpQuiet_nil ?_
      rintro w5 ⟨z, hw2⟩
      have hB : Below w1.heap.size w1 w5 := HB.out.trans (Below.mono (by rw [hw2]; exact World.below_ext _ _) HB.out.size)
      have hx0 : w5.cell? ⟨bk, ba, none⟩ = some (.int .i64 (x0)) := by
        have hl : 0 < path.length := by rw [HPN.out]; omega
        obtain ⟨bk', ba', hpo', -, e0⟩ := ints_at HP.out (HB1.out.trans (hB.mono HB1.out.size)) hl
        simp only [Option.some.injEq, Addr.mk.injEq, and_true] at hpo'
        obtain ⟨rfl, rfl⟩ := hpo'
        rw [HX0.out] at e0
        exact e0
      have hbk5 : bk < w5.heap.size := by
        have hl : 0 < path.length := by rw [HPN.out]; omega
        obtain ⟨bk', ba', hpo', h, e0⟩ := ints_at HP.out (HB1.out.trans (hB.mono HB1.out.size)) hl
        simp only [Option.some.injEq, Addr.mk.injEq, and_true] at hpo'
        obtain ⟨rfl, rfl⟩ := hpo'
        exact h
      clear hw2 q0 q1 q2 q3 q4 hbl p1 hpl1 HB AT4 e0 e9 hbk
      have hx := HX.out.below (w' := w5) hB
      have hP2 := (HPA.out.below (w' := w5) hB)
      have q0 := hx.c0
      have q1 := hx.c1
      have q2 := hx.c2
      have q3 := hx.c3
      have q4 := hx.c4
      have hbl := hx.lt
      have p1 := hP2.c1
      have hpl1 := hP2.bp.lt
      have HB := hid hB
      clear hx hP2
      have FM5 := hid (fun (w' : World) (h : Below w5.heap.size w5 w') => FM.out w' (HB.out.trans (h.mono HB.out.size)))
      have h88 : pr ≠ -1 → fm = false → Hid ((8 : Int) = res) := fun a1 a2 => by
        unfold Hid
        have h2 := HRS.out
        rw [HRT.out, if_neg (by simp), if_neg (by simp), if_pos ⟨a1, a2⟩] at h2
        exact h2
      have h99 : Hid (¬ (pr ≠ -1 ∧ fm = false) → (if r2 = false then (8 : Int) else 0) = res) := fun a1 => by
        have h2 := HRS.out
        rw [HRT.out, if_neg (by simp), if_neg (by simp), if_neg a1] at h2
        exact h2
      clear hB FM
      by_cases hp1 : pr = -1
      · have d1 : (pr != -1) = false := by simp [hp1]
        have h9 := hid (h99.out (fun h => h.1 hp1))
        clear h99 h88 hp1
        go_wp2
        first | with_reducible refine wp_region_ext2 (by kernel_rfl) (by kernel_rfl) ?_ | refine wp_region_ext (by kernel_rfl) (by kernel_rfl) ?_
        repeat (go_big_quiet_step ((go_at_call 63; with_reducible exact Calls.ext_of (FM5.out _ (by (repeat (first | with_reducible exact Below.rf _ | with_reducible exact World.below_ext _ _ | with_reducible refine Below.ex ?_ _ | with_reducible refine Below.al ?_ _ | with_reducible refine Below.setCell ?_ (by simp) _ | with_reducible refine Below.drew ?_)))))))
        refine wpQuiet_nil ?_
        rintro w6 ⟨z, hw2⟩
        have HB6 : Hid (Below w1.heap.size w1 w6) := HB.out.trans (Below.mono (by rw [hw2]; exact World.below_ext _ _) HB.out.size)
        clear hw2 q0 q1 q2 q3 q4 hbl p1 hpl1 HB hx0 hbk5 FM5
        go_wp2
        go_loopw [10] (fun v wr => ∃ k : Nat, v = .int .i64 ((k : Int) + 1) ∧ k ≤ pm ∧ cfM T r (t + k) (path.getD k 0) (path.drop (k + 1)) = r2 ∧ Below w1.heap.size w1 wr) (fun v _ => pm + 1 - (intOf v).toNat)
        case atStart => exact ⟨0, rfl, Nat.zero_le _, by rw [HX0.out, show t + ((0 : Nat) : Int) = t by omega]; exact HR2.out, HB6.out⟩
        case round =>
          obtain ⟨k, rfl, hk, heq, hB⟩ := hrel
          have hx := HX.out.below (w' := wr) hB
          have hP2 := (HPA.out.below (w' := wr) hB)
          have q0 := hx.c0
          have q1 := hx.c1
          have q2 := hx.c2
          have q3 := hx.c3
          have q4 := hx.c4
          have hbl := hx.lt
          have p1 := hP2.c1
          have hpl1 := hP2.bp.lt
          have HB := hid hB
          clear hx hP2
          by_cases hkn : k < pm
          · have dk : decide ((k : Int) + 1 < (pm : Int) + 1) = true := by simp; omega
            have dkn : decide (k < pm) = true := by simp; omega
            have dk2 : decide (k + 1 < pm + 1) = true := by simp; omega
            have dk3 : decide (k < pm + 1) = true := by simp; omega
            have hkl : k < path.length := by rw [HPN.out]; omega
            have hkl1 : k + 1 < path.length := by rw [HPN.out]; omega
            obtain ⟨bk', ba', hpo', hbk, y0⟩ := ints_at HP.out (HB1.out.trans (hB.mono HB1.out.size)) hkl
            simp only [Option.some.injEq, Addr.mk.injEq, and_true] at hpo'
            obtain ⟨rfl, rfl⟩ := hpo'
            obtain ⟨bk', ba', hpo', -, y1⟩ := ints_at HP.out (HB1.out.trans (hB.mono HB1.out.size)) hkl1
            simp only [Option.some.injEq, Addr.mk.injEq, and_true] at hpo'
            obtain ⟨rfl, rfl⟩ := hpo'
            rw [List.drop_eq_getElem_cons hkl1, cfM, show path[k + 1] = path.getD (k + 1) 0 by rw [List.getD_eq_getElem?_getD, List.getElem?_eq_getElem hkl1]; rfl] at heq
            have hyb := HPB.out k
            have hyb1 := HPB.out (k + 1)
            generalize hya : path.getD k 0 = y at *
            generalize hyb0 : path.getD (k + 1) 0 = yb at *
            obtain ⟨v, hv⟩ : ∃ v, T.freeM r y yb (t + k) = v := ⟨_, rfl⟩
            rw [hv] at heq
            have FC : Hid (∀ w' : World, Below wr.heap.size wr w' → Calls Try.prog 63 #[.pointer (some ⟨M.t, 0, none⟩), .int .i64 (r), .int .i64 (y), .int .i64 (yb), .int .i64 (t + (k : Int))] w' fun e w'' => e = .returned (.bool v) ∧ ∃ z, w'' = w'.ext z) := fun w' h => by
              have := freeM_any M T lab r y yb (t + k) w' (HT.out.below (HB.out.trans (h.mono HB.out.size))) HR.out hyb hyb1 (by unfold I64; omega)
              rw [hv] at this
              exact this
            have f1 : t + ((k : Int) + 1) - 1 = t + (k : Int) := by omega
            unfold I64 at hyb hyb1
            have HEQ := hid heq
            have HY := hid hyb0
            clear heq hv hkl hkl1 hB hya hyb0
            cases v with
            | true =>
              have HE : Hid (cfM T r (t + ((k + 1 : Nat) : Int)) (path.getD (k + 1) 0) (path.drop (k + 1 + 1)) = r2) := by
                unfold Hid
                have := HEQ.out
                rw [if_neg (by simp), show t + (k : Int) + 1 = t + ((k + 1 : Nat) : Int) by omega] at this
                rw [HY.out]
                exact this
              clear HEQ
              go_wp2
              first | with_reducible refine wp_region_ext2 (by kernel_rfl) (by kernel_rfl) ?_ | refine wp_region_ext (by kernel_rfl) (by kernel_rfl) ?_
              repeat (go_big_quiet_step ((go_at_call 63; with_reducible exact Calls.ext_of (FC.out _ (by (repeat (first | with_reducible exact Below.rf _ | with_reducible exact World.below_ext _ _ | with_reducible refine Below.ex ?_ _ | with_reducible refine Below.al ?_ _ | with_reducible refine Below.setCell ?_ (by simp) _ | with_reducible refine Below.drew ?_)))))))
              refine wpQuiet_nil ?_
              rintro w7 ⟨z, hw2⟩
              have HB4 : Hid (Below w1.heap.size w1 w7) := HB.out.trans (Below.mono (by rw [hw2]; exact World.below_ext _ _) HB.out.size)
              clear hw2
              go_wp2
              go_roundw
              case rel => exact ⟨k + 1, by go_num, by omega, HE.out, HB4.out⟩
              case measure => (simp [intOf] <;> omega)
            | false =>
              have HE2 : Hid ((8 : Int) = res) := by
                unfold Hid
                have h1 := HEQ.out
                have h2 := h9.out
                rw [if_pos rfl] at h1
                rw [if_pos h1.symm] at h2
                exact h2
              clear HEQ
              go_wp2
              first | with_reducible refine wp_region_ext2 (by kernel_rfl) (by kernel_rfl) ?_ | refine wp_region_ext (by kernel_rfl) (by kernel_rfl) ?_
              repeat (go_big_quiet_step ((go_at_call 63; with_reducible exact Calls.ext_of (FC.out _ (by (repeat (first | with_reducible exact Below.rf _ | with_reducible exact World.below_ext _ _ | with_reducible refine Below.ex ?_ _ | with_reducible refine Below.al ?_ _ | with_reducible refine Below.setCell ?_ (by simp) _ | with_reducible refine Below.drew ?_)))))))
              refine wpQuiet_nil ?_
              rintro w7 ⟨z, hw2⟩
              go_wp2
              go_ret
              exact ⟨by rw [← HE2.out]; rfl, (HB1.out.trans ((HB.out.trans (Below.mono (by first | exact World.below_ext _ _ | (rw [hw2]; exact World.below_ext _ _)) HB.out.size)).mono HB1.out.size)).is_ext⟩
          · have dk : decide ((k : Int) + 1 < (pm : Int) + 1) = false := by simp; omega
            have dkn : decide (k < pm) = false := by simp; omega
            have HE2 : Hid ((0 : Int) = res) := by
              unfold Hid
              have h2 := h9.out
              rw [List.drop_eq_nil_of_le (by rw [HPN.out]; omega), cfM] at heq
              rw [← heq, if_neg (by simp)] at h2
              exact h2
            clear heq
            go_wp2
            go_ret
            exact ⟨by rw [← HE2.out]; rfl, (HB1.out.trans (HB.out.mono HB1.out.size)).is_ext⟩
      · have d1 : (pr != -1) = true := by simp [hp1]
        cases fm with
        | false =>
          have HE2 := h88 hp1 rfl
          clear h99 h88 hp1
          go_wp2
          first | with_reducible refine wp_region_ext2 (by kernel_rfl) (by kernel_rfl) ?_ | refine wp_region_ext (by kernel_rfl) (by kernel_rfl) ?_
          repeat (go_big_quiet_step ((go_at_call 63; with_reducible exact Calls.ext_of (FM5.out _ (by (repeat (first | with_reducible exact Below.rf _ | with_reducible exact World.below_ext _ _ | with_reducible refine Below.ex ?_ _ | with_reducible refine Below.al ?_ _ | with_reducible refine Below.setCell ?_ (by simp) _ | with_reducible refine Below.drew ?_)))))))
          refine wpQuiet_nil ?_
          rintro w6 ⟨z, hw2⟩
          go_wp2
          go_ret
          exact ⟨by rw [← HE2.out]; rfl, (HB1.out.trans ((HB.out.trans (Below.mono (by first | exact World.below_ext _ _ | (rw [hw2]; exact World.below_ext _ _)) HB.out.size)).mono HB1.out.size)).is_ext⟩
        | true =>
        have h9 := hid (h99.out (fun h => by cases h.2))
        clear h99 h88 hp1
        go_wp2
        first | with_reducible refine wp_region_ext2 (by kernel_rfl) (by kernel_rfl) ?_ | refine wp_region_ext (by kernel_rfl) (by kernel_rfl) ?_
        repeat (go_big_quiet_step ((go_at_call 63; with_reducible exact Calls.ext_of (FM5.out _ (by (repeat (first | with_reducible exact Below.rf _ | with_reducible exact World.below_ext _ _ | with_reducible refine Below.ex ?_ _ | with_reducible refine Below.al ?_ _ | with_reducible refine Below.setCell ?_ (by simp) _ | with_reducible refine Below.drew ?_)))))))
        refine wpQuiet_nil ?_
        rintro w6 ⟨z, hw2⟩
        have HB6 : Hid (Below w1.heap.size w1 w6) := HB.out.trans (Below.mono (by rw [hw2]; exact World.below_ext _ _) HB.out.size)
        clear hw2 q0 q1 q2 q3 q4 hbl p1 hpl1 HB hx0 hbk5 FM5
        go_wp2
        go_loopw [10] (fun v wr => ∃ k : Nat, v = .int .i64 ((k : Int) + 1) ∧ k ≤ pm ∧ cfM T r (t + k) (path.getD k 0) (path.drop (k + 1)) = r2 ∧ Below w1.heap.size w1 wr) (fun v _ => pm + 1 - (intOf v).toNat)
        case atStart => exact ⟨0, rfl, Nat.zero_le _, by rw [HX0.out, show t + ((0 : Nat) : Int) = t by omega]; exact HR2.out, HB6.out⟩
        case round =>
          obtain ⟨k, rfl, hk, heq, hB⟩ := hrel
          have hx := HX.out.below (w' := wr) hB
          have hP2 := (HPA.out.below (w' := wr) hB)
          have q0 := hx.c0
          have q1 := hx.c1
          have q2 := hx.c2
          have q3 := hx.c3
          have q4 := hx.c4
          have hbl := hx.lt
          have p1 := hP2.c1
          have hpl1 := hP2.bp.lt
          have HB := hid hB
          clear hx hP2
          by_cases hkn : k < pm
          · have dk : decide ((k : Int) + 1 < (pm : Int) + 1) = true := by simp; omega
            have dkn : decide (k < pm) = true := by simp; omega
            have dk2 : decide (k + 1 < pm + 1) = true := by simp; omega
            have dk3 : decide (k < pm + 1) = true := by simp; omega
            have hkl : k < path.length := by rw [HPN.out]; omega
            have hkl1 : k + 1 < path.length := by rw [HPN.out]; omega
            obtain ⟨bk', ba', hpo', hbk, y0⟩ := ints_at HP.out (HB1.out.trans (hB.mono HB1.out.size)) hkl
            simp only [Option.some.injEq, Addr.mk.injEq, and_true] at hpo'
            obtain ⟨rfl, rfl⟩ := hpo'
            obtain ⟨bk', ba', hpo', -, y1⟩ := ints_at HP.out (HB1.out.trans (hB.mono HB1.out.size)) hkl1
            simp only [Option.some.injEq, Addr.mk.injEq, and_true] at hpo'
            obtain ⟨rfl, rfl⟩ := hpo'
            rw [List.drop_eq_getElem_cons hkl1, cfM, show path[k + 1] = path.getD (k + 1) 0 by rw [List.getD_eq_getElem?_getD, List.getElem?_eq_getElem hkl1]; rfl] at heq
            have hyb := HPB.out k
            have hyb1 := HPB.out (k + 1)
            generalize hya : path.getD k 0 = y at *
            generalize hyb0 : path.getD (k + 1) 0 = yb at *
            obtain ⟨v, hv⟩ : ∃ v, T.freeM r y yb (t + k) = v := ⟨_, rfl⟩
            rw [hv] at heq
            have FC : Hid (∀ w' : World, Below wr.heap.size wr w' → Calls Try.prog 63 #[.pointer (some ⟨M.t, 0, none⟩), .int .i64 (r), .int .i64 (y), .int .i64 (yb), .int .i64 (t + (k : Int))] w' fun e w'' => e = .returned (.bool v) ∧ ∃ z, w'' = w'.ext z) := fun w' h => by
              have := freeM_any M T lab r y yb (t + k) w' (HT.out.below (HB.out.trans (h.mono HB.out.size))) HR.out hyb hyb1 (by unfold I64; omega)
              rw [hv] at this
              exact this
            have f1 : t + ((k : Int) + 1) - 1 = t + (k : Int) := by omega
            unfold I64 at hyb hyb1
            have HEQ := hid heq
            have HY := hid hyb0
            clear heq hv hkl hkl1 hB hya hyb0
            cases v with
            | true =>
              have HE : Hid (cfM T r (t + ((k + 1 : Nat) : Int)) (path.getD (k + 1) 0) (path.drop (k + 1 + 1)) = r2) := by
                unfold Hid
                have := HEQ.out
                rw [if_neg (by simp), show t + (k : Int) + 1 = t + ((k + 1 : Nat) : Int) by omega] at this
                rw [HY.out]
                exact this
              clear HEQ
              go_wp2
              first | with_reducible refine wp_region_ext2 (by kernel_rfl) (by kernel_rfl) ?_ | refine wp_region_ext (by kernel_rfl) (by kernel_rfl) ?_
              repeat (go_big_quiet_step ((go_at_call 63; with_reducible exact Calls.ext_of (FC.out _ (by (repeat (first | with_reducible exact Below.rf _ | with_reducible exact World.below_ext _ _ | with_reducible refine Below.ex ?_ _ | with_reducible refine Below.al ?_ _ | with_reducible refine Below.setCell ?_ (by simp) _ | with_reducible refine Below.drew ?_)))))))
              refine wpQuiet_nil ?_
              rintro w7 ⟨z, hw2⟩
              have HB4 : Hid (Below w1.heap.size w1 w7) := HB.out.trans (Below.mono (by rw [hw2]; exact World.below_ext _ _) HB.out.size)
              clear hw2
              go_wp2
              go_roundw
              case rel => exact ⟨k + 1, by go_num, by omega, HE.out, HB4.out⟩
              case measure => (simp [intOf] <;> omega)
            | false =>
              have HE2 : Hid ((8 : Int) = res) := by
                unfold Hid
                have h1 := HEQ.out
                have h2 := h9.out
                rw [if_pos rfl] at h1
                rw [if_pos h1.symm] at h2
                exact h2
              clear HEQ
              go_wp2
              first | with_reducible refine wp_region_ext2 (by kernel_rfl) (by kernel_rfl) ?_ | refine wp_region_ext (by kernel_rfl) (by kernel_rfl) ?_
              repeat (go_big_quiet_step ((go_at_call 63; with_reducible exact Calls.ext_of (FC.out _ (by (repeat (first | with_reducible exact Below.rf _ | with_reducible exact World.below_ext _ _ | with_reducible refine Below.ex ?_ _ | with_reducible refine Below.al ?_ _ | with_reducible refine Below.setCell ?_ (by simp) _ | with_reducible refine Below.drew ?_)))))))
              refine wpQuiet_nil ?_
              rintro w7 ⟨z, hw2⟩
              go_wp2
              go_ret
              exact ⟨by rw [← HE2.out]; rfl, (HB1.out.trans ((HB.out.trans (Below.mono (by first | exact World.below_ext _ _ | (rw [hw2]; exact World.below_ext _ _)) HB.out.size)).mono HB1.out.size)).is_ext⟩
          · have dk : decide ((k : Int) + 1 < (pm : Int) + 1) = false := by simp; omega
            have dkn : decide (k < pm) = false := by simp; omega
            have HE2 : Hid ((0 : Int) = res) := by
              unfold Hid
              have h2 := h9.out
              rw [List.drop_eq_nil_of_le (by rw [HPN.out]; omega), cfM] at heq
              rw [← heq, if_neg (by simp)] at h2
              exact h2
            clear heq
            go_wp2
            go_ret
            exact ⟨by rw [← HE2.out]; rfl, (HB1.out.trans (HB.out.mono HB1.out.size)).is_ext⟩
      --END 2
end Go.Proofs.Qxb6500716a
