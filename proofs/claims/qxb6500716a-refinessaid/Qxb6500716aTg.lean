/-
  Reserve: the walk.
-/
import Derived.Test.Qxb6500716aTf
namespace Go.Proofs.Qxb6500716a
open Go.RowKit Go.Maps
set_option linter.unusedSimpArgs false
set_option linter.unusedVariables false
set_option maxRecDepth 20000
set_option maxHeartbeats 4000000

/-- 'm[k] = v' in the table's map. -/
theorem wpList_put_tm (w : World) {ops : Array Oper} {rest : List Oper} {o : Oper} {a : Act} {Q : Exit → Act → World → Prop} (hg : o.guard = none) (m x v : Operand) (hop : o.op = Op.mapUpdate 109 m x v)
    (b : Nat) (f : Int → Int → Option Int) (r t c : Int) (hm : a.eval m = .map (some b)) (h : MAt w b f) (hx : a.eval x = .agg #[.int .i64 (r), .int .i64 (t)]) (hv : a.eval v = .int .i64 (c))
    (hr : 0 ≤ r ∧ r < 6) (ht : 0 ≤ t ∧ t < 2147483648) (hc : 0 ≤ c ∧ c < 1000) (hn : f r t = none) (hcn : cntM f < 1000000)
    (hK : ∀ w', MAt w' b (putM f r t c) → w.grownBy w' (some b) → wpList Try.prog ops Q rest (a.put o.dst undef) w') : wpList Try.prog ops Q (o :: rest) a w := by
  refine wpList_plain hg fun K' hK' => ?_
  obtain ⟨w', hrun, r1, r2⟩ := h.put hr ht hc hn hcn
  unfold Oper.wp
  simp [execOp, hop, hm, hx, hv, hrun, Result.andThen]
  exact hK' _ _ (hK w' r1 r2)
/-- 'delete' in the table's map. -/
theorem wpList_del_tm (w : World) {ops : Array Oper} {rest : List Oper} {o : Oper} {a : Act} {Q : Exit → Act → World → Prop} (hg : o.guard = none) (m x : Operand) (hop : o.op = Op.call { callee := Callee.builtin Builtin.delete, args := #[m, x], argTypes := #[109, 113] })
    (b : Nat) (f : Int → Int → Option Int) (r t : Int) (hm : a.eval m = .map (some b)) (h : MAt w b f) (hx : a.eval x = .agg #[.int .i64 (r), .int .i64 (t)]) (hr : I64 r) (ht : I64 t)
    (hK : ∀ w', MAt w' b (delM f r t) → w.grownBy w' (some b) → wpList Try.prog ops Q rest (a.put o.dst (.tuple #[])) w') : wpList Try.prog ops Q (o :: rest) a w := by
  refine wpList_plain hg fun K' hK' => ?_
  obtain ⟨w', hrun, r1, r2⟩ := h.drop hr ht o.type
  unfold Oper.wp
  simp [execOp, hop, resolve, invoke, builtin, hm, hx, hrun, Result.andThen]
  exact hK' _ _ (hK w' r1 r2.grown)

section
variable {w w2 : World} {lab : Nat → Nat} {M : TM} {T : TS}
theorem TAt.setM (h : TAt w lab M T) {f : Int → Int → Option Int} (hg : w.grownBy w2 (some M.m)) (hm : MAt w2 M.m f) (hh : cntM f + T.sp.length ≤ 2000) : TAt w2 lab M { T with tm := f } := by
  have hk : KeptL lab (fun x => x = 3) w w2 := KeptL.of_grown hg h.lm
  exact ⟨{ h.bd with held := hh }, (h.bt.keptL hk (by rw [h.lt]; omega)).congr (fun i hi => by
    rcases (by omega : i = 0 ∨ i = 1 ∨ i = 2 ∨ i = 3 ∨ i = 4 ∨ i = 5) with rfl | rfl | rfl | rfl | rfl | rfl <;> rfl), hm, h.bs.keptL hk (by omega), h.lt, h.lm⟩
theorem at_none {T : TS} (hm : MBd T.tm) {r t : Int} (h : T.at r t = -1) : T.tm r t = none := by
  unfold TS.at at h
  cases hx : T.tm r t with
  | none => rfl
  | some x =>
    rw [hx] at h
    have := hm.x _ _ _ hx
    simp at h
    omega
theorem del_put {f : Int → Int → Option Int} {r t : Int} (c : Int) (h : f r t = none) : delM (putM f r t c) r t = f := by
  funext a b
  unfold delM putM
  split
  · rename_i e; rw [e.1, e.2, h]
  · rfl
end

def TS.put (T : TS) (r c t : Int) : TS := { T with tm := putM T.tm r t c }
/-- What 'Reserve' answers and leaves. -/
def TS.reserve (T : TS) (r c t : Int) : Int × TS :=
  if T.place r c t ≠ 0 then (T.place r c t, T)
  else if T.at r t ≠ -1 then (4, T)
  else if T.hold c t ≠ -1 then (5, T)
  else if ((T.put r c t).crossed r (t - 1) || (T.put r c t).crossed r t) = true then (6, T)
  else if T.cap < (T.put r c t).held then (7, T)
  else (0, T.put r c t)
def resPost (lab : Nat → Nat) (M : TM) (code : Int) (T' : TS) (w : World) (e : Ending) (w' : World) : Prop :=
  e = .returned (.int .i64 (code)) ∧ TAt w' lab M T' ∧ KeptL lab (fun x => x = 3) w w'

theorem reserve_any (M : TM) (T : TS) (lab : Nat → Nat) (r c t : Int) (w : World) (h : TAt w lab M T) (hh : T.held ≤ T.cap) (hr : I64 r) (hc : I64 c) (ht : I64 t) :
    Calls Try.prog 72 #[.pointer (some ⟨M.t, 0, none⟩), .int .i64 (r), .int .i64 (c), .int .i64 (t)] w (resPost lab M (T.reserve r c t).1 (T.reserve r c t).2 w) := by
  have HH := hid h
  have PL := hid (place_any M T lab r c t w h)
  have AT := hid (at_any M T lab r t w h hr ht)
  have HO := hid (fun z => holder_any M T lab c t (w.ext z) (h.ex z) hc ht)
  have AB := at_bd h.bd h.bm.bd r t
  have HB := hold_bd T h.bd c t
  have hlt := h.bt.lt
  unfold TS.reserve
  have hpb : 0 ≤ T.place r c t ∧ T.place r c t ≤ 3 := by
    unfold TS.place
    repeat (first | omega | split)
  by_cases hp : T.place r c t ≠ 0
  · rw [if_pos hp]
    generalize T.place r c t = x at *
    have b1 : (x != 0) = true := by simp [hp]
    clear h hr hc ht hh
    go_enter Try.func72, Try.ntmps72
    go_wp2_with (first | (go_at_call 74; refine PL.out.mono ?_; rintro e w ⟨rfl, rfl⟩) | (go_at_call 24; refine AT.out.mono ?_; rintro e w' ⟨rfl, z1, rfl⟩) | (go_at_call 83; refine (HO.out _).mono ?_; rintro e w' ⟨rfl, z2, rfl⟩))
    go_ret
    exact ⟨rfl, HH.out, KeptL.refl _ _ _⟩
  · rw [if_neg hp]
    have hp0 : T.place r c t = 0 := by omega
    have hpp := hp0
    rw [hp0] at PL
    by_cases ha : T.at r t ≠ -1
    · rw [if_pos ha]
      generalize T.at r t = x at *
      have b1 : (x != -1) = true := by simp [ha]
      clear h hr hc ht hh hp hp0 hpp hpb
      go_enter Try.func72, Try.ntmps72
      go_wp2_with (first | (go_at_call 74; refine PL.out.mono ?_; rintro e w ⟨rfl, rfl⟩) | (go_at_call 24; refine AT.out.mono ?_; rintro e w' ⟨rfl, z1, rfl⟩) | (go_at_call 83; refine (HO.out _).mono ?_; rintro e w' ⟨rfl, z2, rfl⟩))
      go_ret
      exact ⟨rfl, HH.out.ex _, KeptL.of_below (World.below_ext _ _)⟩
    · rw [if_neg ha]
      have ha0 : T.at r t = -1 := by omega
      rw [ha0] at AT
      by_cases ho : T.hold c t ≠ -1
      · rw [if_pos ho]
        generalize T.hold c t = x at *
        have b1 : (x != -1) = true := by simp [ho]
        clear h hr hc ht hh hp hp0 hpp hpb ha ha0 AB
        go_enter Try.func72, Try.ntmps72
        go_wp2_with (first | (go_at_call 74; refine PL.out.mono ?_; rintro e w ⟨rfl, rfl⟩) | (go_at_call 24; refine AT.out.mono ?_; rintro e w' ⟨rfl, z1, rfl⟩) | (go_at_call 83; refine (HO.out _).mono ?_; rintro e w' ⟨rfl, z2, rfl⟩))
        go_ret
        refine ⟨rfl, HH.out.below ?_, KeptL.of_below ?_⟩
        · (repeat (first | with_reducible exact Below.rf _ | with_reducible exact World.below_ext _ _ | with_reducible refine Below.ex ?_ _ | with_reducible refine Below.al ?_ _ | with_reducible refine Below.setCell ?_ (by simp) _ | with_reducible refine Below.drew ?_))
        · (repeat (first | with_reducible exact Below.rf _ | with_reducible exact World.below_ext _ _ | with_reducible refine Below.ex ?_ _ | with_reducible refine Below.al ?_ _ | with_reducible refine Below.setCell ?_ (by simp) _ | with_reducible refine Below.drew ?_))
      · rw [if_neg ho]
        have ho0 : T.hold c t = -1 := by omega
        rw [ho0] at HO
        -- the entry is made
        unfold TS.place at hpp
        have hnr := h.bd.nr
        have hnc := h.bd.nc
        have hbs := h.bd.base
        have hcap := h.bd.cap
        have hpp2 : (0 ≤ r ∧ r < (T.nr : Int)) ∧ (0 ≤ c ∧ c < (T.nc : Int)) ∧ (T.base : Int) ≤ t ∧ t < (T.base : Int) + 256 := by
          split at hpp
          · cases hpp
          · rename_i h1
            simp at h1
            split at hpp
            · cases hpp
            · split at hpp
              · cases hpp
              · exact ⟨⟨by omega, by omega⟩, ⟨by omega, by omega⟩, by omega, by omega⟩
        obtain ⟨hr2, hc2, ht2⟩ := hpp2
        have htn := at_none h.bm.bd ha0
        have hcm := cntM_put (f := T.tm) (a := r) (b := t) c (by omega) (by omega) htn
        have hh2 : (T.put r c t).held = T.held + 1 := by
          show cntM (putM T.tm r t c) + T.sp.length = _
          rw [hcm]; unfold TS.held; omega
        have hcn := h.cn
        have HM := hid (fun (z : World) => h.bm.below (World.below_ext w z))
        have c4 := h.c4
        have c2 := h.c2
        have hmlt := h.bm.lt
        have HTN := hid htn
        have HHH := hid hh
        have e2 : T.held ≤ 1536 := by omega
        rw [hh2]
        have HS2 := hid hh2
        obtain ⟨res, hres⟩ : ∃ x : Int × TS, (if ((T.put r c t).crossed r (t - 1) || (T.put r c t).crossed r t) = true then (6, T) else if T.cap < T.held + 1 then (7, T) else (0, T.put r c t)) = x := ⟨_, rfl⟩
        rw [hres]
        have HRES := hid hres
        clear h hp hp0 hpp hpb ha ha0 AB HB ho ho0 htn hh hh2 hcm hr hc ht hres
        have HR2 := hid hr2
        have HT2 := hid ht2
        have HC2 := hid hc2
        go_enter Try.func72, Try.ntmps72
        go_wp2_with (first | (go_at_call 74; refine PL.out.mono ?_; rintro e w ⟨rfl, rfl⟩) | (go_at_call 24; refine AT.out.mono ?_; rintro e w' ⟨rfl, z1, rfl⟩) | (go_at_call 83; refine (HO.out _).mono ?_; rintro e w' ⟨rfl, z2, rfl⟩) | (at_mapUpdate; refine wpList_put_tm _ rfl _ _ _ rfl M.m T.tm r t c rfl (HM.out _) rfl rfl (by omega) (by omega) (by omega) HTN.out (by omega) ?_; intro w2 hM2 hg2))
        have h2 : TAt w2 lab M (T.put r c t) := (HH.out.ex _).setM hg2 hM2 (by have := HS2.out; unfold TS.put TS.held at this; unfold TS.held at e2; show cntM (putM T.tm r t c) + T.sp.length ≤ 2000; simp only at this; omega)
        have H2 := hid h2
        have hk2 : KeptL lab (fun x => x = 3) w w2 := (KeptL.of_below (World.below_ext _ _)).trans (KeptL.of_grown hg2 HH.out.lm)
        have HK2 := hid hk2
        have c4' := h2.c4
        have c2' := h2.c2
        have hlt' := h2.bt.lt
        have HE := hid (fun z => held_any M (T.put r c t) lab (w2.ext z) (h2.ex z))
        have X1 := hid (fun z => crossed_any M (T.put r c t) lab r (t - 1) (w2.ext z) (h2.ex z) ⟨by have := HR2.out; omega, by have := HR2.out; omega⟩ (by have := HT2.out; omega))
        have X2 := hid (fun z => crossed_any M (T.put r c t) lab r t (w2.ext z) (h2.ex z) ⟨by have := HR2.out; omega, by have := HR2.out; omega⟩ (by have := HT2.out; omega))
        have HM2 := hid (fun (z : World) => h2.bm.below (World.below_ext w2 z))
        rw [HS2.out] at HE
        have c2'' : w2.cell? ⟨M.t, 2, none⟩ = some (.int .i64 (T.cap)) := c2'
        clear hM2 hg2 h2 hk2 HM HS2 hmlt c4 c2 c2'
        generalize T.held = hd at *
        obtain ⟨cp, hcp⟩ : ∃ x, T.cap = x := ⟨_, rfl⟩
        rw [hcp] at c2'' HRES hcap
        clear hcp
        generalize (T.put r c t).crossed r (t - 1) = p1 at *
        generalize (T.put r c t).crossed r t = p2 at *
        first | with_reducible refine wp_region_ext2 (by kernel_rfl) (by kernel_rfl) ?_ | refine wp_region_ext (by kernel_rfl) (by kernel_rfl) ?_
        repeat (go_big_quiet_step ((go_at_call 76; exact Calls.ext_of (HE.out _))))
        refine wpQuiet_nil ?_
        rintro _ ⟨z, rfl⟩
        by_cases hf : cp < hd + 1
        · have bf : ((hd : Int) + 1 > (cp : Int)) := by omega
          cases p1 with
          | true =>
            go_wp2_with (first | (go_at_call 77; with_reducible refine (X1.out _).mono ?_; rintro e w' ⟨rfl, z5, rfl⟩) | (go_at_call 77; refine (X2.out _).mono ?_; rintro e w' ⟨rfl, z6, rfl⟩) | (at_delete; refine wpList_del_tm _ rfl _ _ rfl M.m (putM T.tm r t c) r t rfl (HM2.out _) rfl ⟨by have := HR2.out; omega, by have := HR2.out; omega⟩ ⟨by have := HT2.out; omega, by have := HT2.out; omega⟩ ?_; intro w3 hM3 hg3) | go_in)
            rw [if_pos (by simp)] at HRES
            have e5 : res = (6, T) := HRES.out.symm
            have h3 : TAt w3 lab M T := by
              have := (H2.out.ex _).setM hg3 hM3 (by rw [del_put c HTN.out]; exact HH.out.bd.held)
              rw [del_put c HTN.out] at this
              exact this
            have hk3 : KeptL lab (fun x => x = 3) w w3 := (HK2.out.ex _).trans (KeptL.of_grown hg3 HH.out.lm)
            rw [e5]
            go_wp2
            go_ret
            exact ⟨rfl, h3, hk3⟩
          | false =>
            cases p2 with
            | true =>
              go_wp2_with (first | (go_at_call 77; with_reducible refine (X1.out _).mono ?_; rintro e w' ⟨rfl, z5, rfl⟩) | (go_at_call 77; refine (X2.out _).mono ?_; rintro e w' ⟨rfl, z6, rfl⟩) | (at_delete; refine wpList_del_tm _ rfl _ _ rfl M.m (putM T.tm r t c) r t rfl (HM2.out _) rfl ⟨by have := HR2.out; omega, by have := HR2.out; omega⟩ ⟨by have := HT2.out; omega, by have := HT2.out; omega⟩ ?_; intro w3 hM3 hg3) | go_in)
              rw [if_pos (by simp)] at HRES
              have e5 : res = (6, T) := HRES.out.symm
              have h3 : TAt w3 lab M T := by
                have := (H2.out.ex _).setM hg3 hM3 (by rw [del_put c HTN.out]; exact HH.out.bd.held)
                rw [del_put c HTN.out] at this
                exact this
              have hk3 : KeptL lab (fun x => x = 3) w w3 := (HK2.out.ex _).trans (KeptL.of_grown hg3 HH.out.lm)
              rw [e5]
              go_wp2
              go_ret
              exact ⟨rfl, h3, hk3⟩
            | false =>
              rw [if_neg (by simp), if_pos hf] at HRES
              go_wp2_with (first | (go_at_call 77; with_reducible refine (X1.out _).mono ?_; rintro e w' ⟨rfl, z5, rfl⟩) | (go_at_call 77; refine (X2.out _).mono ?_; rintro e w' ⟨rfl, z6, rfl⟩) | (at_delete; refine wpList_del_tm _ rfl _ _ rfl M.m (putM T.tm r t c) r t rfl (HM2.out _) rfl ⟨by have := HR2.out; omega, by have := HR2.out; omega⟩ ⟨by have := HT2.out; omega, by have := HT2.out; omega⟩ ?_; intro w3 hM3 hg3) | go_in)
              have e5 : res = (7, T) := HRES.out.symm
              have h3 : TAt w3 lab M T := by
                have := (H2.out.ex _).setM hg3 hM3 (by rw [del_put c HTN.out]; exact HH.out.bd.held)
                rw [del_put c HTN.out] at this
                exact this
              have hk3 : KeptL lab (fun x => x = 3) w w3 := (HK2.out.ex _).trans (KeptL.of_grown hg3 HH.out.lm)
              rw [e5]
              go_wp2
              go_ret
              exact ⟨rfl, h3, hk3⟩
        · have bf : ¬ ((hd : Int) + 1 > (cp : Int)) := by omega
          cases p1 with
          | true =>
            go_wp2_with (first | (go_at_call 77; with_reducible refine (X1.out _).mono ?_; rintro e w' ⟨rfl, z5, rfl⟩) | (go_at_call 77; refine (X2.out _).mono ?_; rintro e w' ⟨rfl, z6, rfl⟩) | (at_delete; refine wpList_del_tm _ rfl _ _ rfl M.m (putM T.tm r t c) r t rfl (HM2.out _) rfl ⟨by have := HR2.out; omega, by have := HR2.out; omega⟩ ⟨by have := HT2.out; omega, by have := HT2.out; omega⟩ ?_; intro w3 hM3 hg3) | go_in)
            rw [if_pos (by simp)] at HRES
            have e5 : res = (6, T) := HRES.out.symm
            have h3 : TAt w3 lab M T := by
              have := (H2.out.ex _).setM hg3 hM3 (by rw [del_put c HTN.out]; exact HH.out.bd.held)
              rw [del_put c HTN.out] at this
              exact this
            have hk3 : KeptL lab (fun x => x = 3) w w3 := (HK2.out.ex _).trans (KeptL.of_grown hg3 HH.out.lm)
            rw [e5]
            go_wp2
            go_ret
            exact ⟨rfl, h3, hk3⟩
          | false =>
            cases p2 with
            | true =>
              go_wp2_with (first | (go_at_call 77; with_reducible refine (X1.out _).mono ?_; rintro e w' ⟨rfl, z5, rfl⟩) | (go_at_call 77; refine (X2.out _).mono ?_; rintro e w' ⟨rfl, z6, rfl⟩) | (at_delete; refine wpList_del_tm _ rfl _ _ rfl M.m (putM T.tm r t c) r t rfl (HM2.out _) rfl ⟨by have := HR2.out; omega, by have := HR2.out; omega⟩ ⟨by have := HT2.out; omega, by have := HT2.out; omega⟩ ?_; intro w3 hM3 hg3) | go_in)
              rw [if_pos (by simp)] at HRES
              have e5 : res = (6, T) := HRES.out.symm
              have h3 : TAt w3 lab M T := by
                have := (H2.out.ex _).setM hg3 hM3 (by rw [del_put c HTN.out]; exact HH.out.bd.held)
                rw [del_put c HTN.out] at this
                exact this
              have hk3 : KeptL lab (fun x => x = 3) w w3 := (HK2.out.ex _).trans (KeptL.of_grown hg3 HH.out.lm)
              rw [e5]
              go_wp2
              go_ret
              exact ⟨rfl, h3, hk3⟩
            | false =>
              rw [if_neg (by simp), if_neg hf] at HRES
              have e5 : res = (0, T.put r c t) := HRES.out.symm
              clear HRES
              subst e5
              go_wp2_with (first | (go_at_call 77; with_reducible refine (X1.out _).mono ?_; rintro e w' ⟨rfl, z5, rfl⟩) | (go_at_call 77; refine (X2.out _).mono ?_; rintro e w' ⟨rfl, z6, rfl⟩) | (at_delete; refine wpList_del_tm _ rfl _ _ rfl M.m (putM T.tm r t c) r t rfl (HM2.out _) rfl ⟨by have := HR2.out; omega, by have := HR2.out; omega⟩ ⟨by have := HT2.out; omega, by have := HT2.out; omega⟩ ?_; intro w3 hM3 hg3) | go_in)
              go_ret
              exact ⟨rfl, H2.out.ex _, HK2.out.ex _⟩
end Go.Proofs.Qxb6500716a
