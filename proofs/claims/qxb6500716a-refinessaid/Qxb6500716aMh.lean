/-
  Step: requests.
-/
import Derived.Test.Qxb6500716aMd
import Derived.Test.Qxb6500716aLx
import Derived.Test.Qxb6500716aRm
import Derived.Test.Qxb6500716aRp
namespace Go.Proofs.Qxb6500716a
open Go.RowKit Go.Maps
set_option linter.unusedSimpArgs false
set_option linter.unusedVariables false
set_option maxRecDepth 20000
set_option maxHeartbeats 4000000
/-- The model's answer to a request. -/
def mdAns (p : Bool) (T : TS) (q : Rq) (code : Nat) (arr : Int) : Nat × List Int :=
  if code ≠ 0 then (code, []) else if p = true ∧ ¬ (((T.trunc q.r q.t).held : Int) + (arr - q.t) + 1 ≤ (T.cap : Int)) then (6, []) else (0, [arr])
def stReq (lab : Nat → Nat) (mb : Nat) (X : MW) (o : Opr) (w : World) (e : Ending) (w' : World) : Prop :=
  ∃ code arr, slvR X.F X.T (rqOf o) code arr ∧ stPost lab mb (some X, mdAns (decide (o.K = 5)) X.T (rqOf o) code arr) w e w'
theorem slv_arr {F : FS} {T : TS} {q : Rq} {arr : Int} (hF : FOk F) (h : slvR F T q 0 arr) : rcode F T q = 0 ∧ q.t ≤ arr ∧ arr ≤ q.t + 255 := by
  rcases h with ⟨-, h, -⟩ | ⟨h0, ⟨-, h, -⟩ | ⟨-, h⟩⟩
  · cases h
  · cases h
  · refine ⟨h0, ?_⟩
    have hz := (rok_of hF h0).hz
    rcases h.ex with ⟨-, o, ho, ho2, -⟩ | ⟨h1, -⟩
    · omega
    · cases h1
theorem st_odd5 (mb : Nat) (fv tv : Value) (o : Opr) (v : Value) (lab : Nat → Nat) (w : World) (X : MW) (h : MdAt w lab mb fv tv (some X)) (hv : Ints w lab v o.l) (hO : OpI o) (hK : o.K = 5) (hodd : o.l.length % 2 = 1) :
    Calls Try.prog 13 #[.pointer (some ⟨mb, 0, none⟩), .agg #[.int .i64 ((o).K), .int .i64 ((o).A), .int .i64 ((o).B), .int .i64 ((o).C), .int .i64 ((o).D), .int .i64 ((o).E), v]] w (stPost lab mb (some X, 2, []) w) := by
  obtain ⟨vo, vc, hvv, -⟩ := hv.ex
  have HV := hid hv
  have HD := hid h
  have hdl := h.b.lt
  have hol := hO.l
  clear hO
  obtain ⟨fb0, _, f0, -⟩ := h.wd
  have e0 : w.cell? ⟨mb, 0, none⟩ = some (.pointer (some ⟨fb0, 0, none⟩)) := by
    rw [h.b.is 0 (by omega)]
    show some fv = _
    rw [f0]
  obtain ⟨K, A, B, C, Dd, E, l⟩ := o
  simp only at hK
  subst hK
  have RQ := hid (fun (lb : Nat → Nat) (w' : World) (hI : Ints w' lb v l) => request_any ⟨5, A, B, C, Dd, E, l⟩ v lb w' hI hol)
  subst hvv
  simp only at *
  obtain ⟨ln, hln⟩ : ∃ y, l.length = y := ⟨_, rfl⟩
  rw [hln] at HV RQ hodd hol ⊢
  have HLN := hid hln
  clear h hv f0 hln
  go_enter Try.func13, Try.ntmps13
  go_wp2_with (first | (go_at_call 33; refine hold ?_))
  unfold Hid
  refine calls_nm fun w1 hw1 => ?_
  obtain ⟨l1, hS1⟩ := st_start (o := ⟨5, A, B, C, Dd, E, l⟩) HD.out HV.out (.int .u8 0) (.slice none 0 0) w1 hw1
  clear hw1 e0
  refine (RQ.out l1 w1 hS1.iv).mono ?_
  rintro e w2 ⟨hb2, hr2⟩
  rw [if_pos (by simp only; rw [HLN.out]; exact hodd)] at hr2
  subst hr2
  have S2 := hS1.below hb2
  obtain ⟨a0, a1, q3⟩ := S2.bq
  have k0 : w2.cell? ⟨w.heap.size + 1, 0, none⟩ = some a0 := q3.is 0 (by omega)
  have k1 : w2.cell? ⟨w.heap.size + 1, 1, none⟩ = some a1 := q3.is 1 (by omega)
  have kz0 := q3.fz 0 (by omega)
  have kz1 := q3.fz 1 (by omega)
  have kl := q3.lt
  have HS2 := hid S2
  clear q3 S2 hS1 hb2 RQ
  go_wp2
  refine bodyPost_ret (v := .agg #[.int .u8 2, .slice none 0 0]) (by simp [results, Try.results13, go_sem, ↓IntWalk.iteOmega, k0, k1]) rfl ?_
  exact (st_fin HS2.out hdl 2 _ [] (Ints.nil _ _)).below ((Below.rf _).al _)
theorem st_odd6 (mb : Nat) (fv tv : Value) (o : Opr) (v : Value) (lab : Nat → Nat) (w : World) (X : MW) (h : MdAt w lab mb fv tv (some X)) (hv : Ints w lab v o.l) (hO : OpI o) (hK : o.K = 6) (hodd : o.l.length % 2 = 1) :
    Calls Try.prog 13 #[.pointer (some ⟨mb, 0, none⟩), .agg #[.int .i64 ((o).K), .int .i64 ((o).A), .int .i64 ((o).B), .int .i64 ((o).C), .int .i64 ((o).D), .int .i64 ((o).E), v]] w (stPost lab mb (some X, 2, []) w) := by
  obtain ⟨vo, vc, hvv, -⟩ := hv.ex
  have HV := hid hv
  have HD := hid h
  have hdl := h.b.lt
  have hol := hO.l
  clear hO
  obtain ⟨fb0, _, f0, -⟩ := h.wd
  have e0 : w.cell? ⟨mb, 0, none⟩ = some (.pointer (some ⟨fb0, 0, none⟩)) := by
    rw [h.b.is 0 (by omega)]
    show some fv = _
    rw [f0]
  obtain ⟨K, A, B, C, Dd, E, l⟩ := o
  simp only at hK
  subst hK
  have RQ := hid (fun (lb : Nat → Nat) (w' : World) (hI : Ints w' lb v l) => request_any ⟨6, A, B, C, Dd, E, l⟩ v lb w' hI hol)
  subst hvv
  simp only at *
  obtain ⟨ln, hln⟩ : ∃ y, l.length = y := ⟨_, rfl⟩
  rw [hln] at HV RQ hodd hol ⊢
  have HLN := hid hln
  clear h hv f0 hln
  go_enter Try.func13, Try.ntmps13
  go_wp2_with (first | (go_at_call 33; refine hold ?_))
  unfold Hid
  refine calls_nm fun w1 hw1 => ?_
  obtain ⟨l1, hS1⟩ := st_start (o := ⟨6, A, B, C, Dd, E, l⟩) HD.out HV.out (.int .u8 0) (.slice none 0 0) w1 hw1
  clear hw1 e0
  refine (RQ.out l1 w1 hS1.iv).mono ?_
  rintro e w2 ⟨hb2, hr2⟩
  rw [if_pos (by simp only; rw [HLN.out]; exact hodd)] at hr2
  subst hr2
  have S2 := hS1.below hb2
  obtain ⟨a0, a1, q3⟩ := S2.bq
  have k0 : w2.cell? ⟨w.heap.size + 1, 0, none⟩ = some a0 := q3.is 0 (by omega)
  have k1 : w2.cell? ⟨w.heap.size + 1, 1, none⟩ = some a1 := q3.is 1 (by omega)
  have kz0 := q3.fz 0 (by omega)
  have kz1 := q3.fz 1 (by omega)
  have kl := q3.lt
  have HS2 := hid S2
  clear q3 S2 hS1 hb2 RQ
  go_wp2
  refine bodyPost_ret (v := .agg #[.int .u8 2, .slice none 0 0]) (by simp [results, Try.results13, go_sem, ↓IntWalk.iteOmega, k0, k1]) rfl ?_
  exact (st_fin HS2.out hdl 2 _ [] (Ints.nil _ _)).below ((Below.rf _).al _)
set_option maxHeartbeats 8000000 in
theorem st_req6 (mb : Nat) (fv tv : Value) (o : Opr) (v : Value) (lab : Nat → Nat) (w : World) (X : MW) (h : MdAt w lab mb fv tv (some X)) (hv : Ints w lab v o.l) (hO : OpI o) (hK : o.K = 6) (hodd : ¬ o.l.length % 2 = 1) :
    Calls Try.prog 13 #[.pointer (some ⟨mb, 0, none⟩), .agg #[.int .i64 ((o).K), .int .i64 ((o).A), .int .i64 ((o).B), .int .i64 ((o).C), .int .i64 ((o).D), .int .i64 ((o).E), v]] w (stReq lab mb X o w) := by
  unfold stReq
  obtain ⟨vo, vc, hvv, -⟩ := hv.ex
  have HV := hid hv
  have HD := hid h
  have hdl := h.b.lt
  have hol := hO.l
  clear hO
  obtain ⟨fb0, _, f0, -⟩ := h.wd
  have e0 : w.cell? ⟨mb, 0, none⟩ = some (.pointer (some ⟨fb0, 0, none⟩)) := by
    rw [h.b.is 0 (by omega)]
    show some fv = _
    rw [f0]
  obtain ⟨K, A, B, C, Dd, E, l⟩ := o
  simp only at hK
  subst hK
  have RQ := hid (fun (lb : Nat → Nat) (w' : World) (hI : Ints w' lb v l) => request_any ⟨6, A, B, C, Dd, E, l⟩ v lb w' hI hol)
  subst hvv
  simp only at *
  obtain ⟨ln, hln⟩ : ∃ y, l.length = y := ⟨_, rfl⟩
  rw [hln] at HV RQ hodd hol ⊢
  have HLN := hid hln
  clear h hv f0 hln
  go_enter Try.func13, Try.ntmps13
  go_wp2_with (first | (go_at_call 33; refine hold ?_))
  unfold Hid
  refine calls_nm fun w1 hw1 => ?_
  obtain ⟨l1, hS1⟩ := st_start (o := ⟨6, A, B, C, Dd, E, l⟩) HD.out HV.out (.int .u8 0) (.slice none 0 0) w1 hw1
  clear hw1 e0
  obtain ⟨l2, hl1, hl2⟩ : ∃ y : Nat → Nat, (∀ k, k < w1.heap.size → y k = l1 k) ∧ ∀ k, w1.heap.size ≤ k → y k = 0 := ⟨fun b => if b < w1.heap.size then l1 b else 0, fun k hk => if_pos hk, fun k hk => if_neg (by omega)⟩
  refine (RQ.out l1 w1 hS1.iv).mono ?_
  rintro e w2 ⟨hb2, hr2⟩
  rw [if_neg (by simp only; rw [HLN.out]; exact hodd)] at hr2
  obtain ⟨gv, hr2, hG2⟩ := hr2
  subst hr2
  have S2 := (hS1.relab hl1).below hb2
  have hG := hG2 l2 hl2
  obtain ⟨q, hq⟩ : ∃ y, rqOf ⟨6, A, B, C, Dd, E, l⟩ = y := ⟨_, rfl⟩
  have hqr : A = q.r := by rw [← hq]; rfl
  have hqs : B = q.s := by rw [← hq]; rfl
  have hqt : C = q.t := by rw [← hq]; rfl
  have hqh : Dd = q.h := by rw [← hq]; rfl
  have hqm : E = q.m := by rw [← hq]; rfl
  have hqg : gls l = q.gl := by rw [← hq]; rfl
  have HQ := hid hq
  simp only at hG ⊢
  rw [hqg] at hG
  rw [hqr, hqs, hqt, hqh, hqm]
  rw [hqr, hqs, hqt, hqh, hqm] at S2
  obtain ⟨go, gc, hgx, -⟩ := hG.ex
  obtain ⟨gn, hgn⟩ : ∃ y, q.gl.length = y := ⟨_, rfl⟩
  rw [hgn] at hgx
  subst hgx
  obtain ⟨fb, M, f1, f2, hF, hT⟩ := S2.a.wd
  have e0 : w2.cell? ⟨mb, 0, none⟩ = some (.pointer (some ⟨fb, 0, none⟩)) := by
    rw [S2.a.b.is 0 (by omega)]
    show some fv = _
    rw [f1]
  have e1 : w2.cell? ⟨mb, 1, none⟩ = some (.pointer (some ⟨M.t, 0, none⟩)) := by
    rw [S2.a.b.is 1 (by omega)]
    show some tv = _
    rw [f2]
  have hm2 : MoAt w2 mb fb M.t := ⟨e0, e1, S2.a.b.lt⟩
  have x0 : w2.cell? ⟨w.heap.size, 0, none⟩ = some (.int .i64 (6)) := S2.bx.is 0 (by omega)
  have hxl := S2.bx.lt
  obtain ⟨a0, a1, q3⟩ := S2.bq
  have k0 : w2.cell? ⟨w.heap.size + 1, 0, none⟩ = some a0 := q3.is 0 (by omega)
  have k1 : w2.cell? ⟨w.heap.size + 1, 1, none⟩ = some a1 := q3.is 1 (by omega)
  have kz0 := q3.fz 0 (by omega)
  have kz1 := q3.fz 1 (by omega)
  have kl := q3.lt
  have SO : Hid (∀ w', Below w2.heap.size w2 w' → Calls Try.prog 34 #[.pointer (some ⟨mb, 0, none⟩), .agg #[.int .i64 (q.r), .int .i64 (q.s), .int .i64 (q.t), .slice go gn gc, .int .i64 (q.h), .int .i64 (q.m)]] w' (slvP w' X.F X.T q)) := fun w' h => solve_any mb fb M X.F X.T l2 q (.slice go gn gc) w' (hF.below h) (hT.below h) (hm2.below h) (hG.below h)
  have HOK : Hid (FOk X.F) := hF.ok
  have HTB := hid hT.bd
  have RO : Hid (∀ (w' : World) (arr : Int), Below w2.heap.size w2 w' → X.T.rOk q.r = true → (-4000000000 ≤ q.t ∧ q.t ≤ 4000000000) → (-8000000000 ≤ arr ∧ arr ≤ 8000000000) → Calls Try.prog 55 #[.pointer (some ⟨mb, 0, none⟩), .agg #[.int .i64 (q.r), .int .i64 (q.s), .int .i64 (q.t), .slice go gn gc, .int .i64 (q.h), .int .i64 (q.m)], .int .i64 (arr)] w' fun e w'' => e = .returned (.bool (decide (((X.T.trunc q.r q.t).held : Int) + (arr - q.t) + 1 ≤ (X.T.cap : Int)))) ∧ Below w'.heap.size w' w'') := fun w' arr h h1 h2 h3 => room_any mb fb M X.T l2 q (.slice go gn gc) arr w' (hT.below h) (hm2.below h) h1 h2 h3
  have HS2 := hid S2
  clear q3 S2 hS1 hb2 RQ hG hG2 hF hT f1 f2 hqr hqs hqt hqh hqm hqg hq hgn hl1 hl2 e0 e1 hm2
  go_wp2_with (first | (go_at_call 34; refine hold ?_))
  unfold Hid
  refine calls_nm fun w3 hw3 => ?_
  have B3 : Below w2.heap.size w2 w3 := by rw [hw3]; (repeat (first | with_reducible exact Below.rf _ | with_reducible exact World.below_ext _ _ | with_reducible refine Below.ex ?_ _ | with_reducible refine Below.al ?_ _ | with_reducible refine Below.setCell ?_ (by simp) _ | with_reducible refine Below.drew ?_))
  have r0 : w3.cell? ⟨w2.heap.size, 0, none⟩ = some (.int .i64 (q.r)) := by rw [hw3]; simp [go_sem, ↓IntWalk.iteOmega]
  have r1 : w3.cell? ⟨w2.heap.size, 1, none⟩ = some (.int .i64 (q.s)) := by rw [hw3]; simp [go_sem, ↓IntWalk.iteOmega]
  have r2 : w3.cell? ⟨w2.heap.size, 2, none⟩ = some (.int .i64 (q.t)) := by rw [hw3]; simp [go_sem, ↓IntWalk.iteOmega]
  have r3 : w3.cell? ⟨w2.heap.size, 3, none⟩ = some (.slice go gn gc) := by rw [hw3]; simp [go_sem, ↓IntWalk.iteOmega]
  have r4 : w3.cell? ⟨w2.heap.size, 4, none⟩ = some (.int .i64 (q.h)) := by rw [hw3]; simp [go_sem, ↓IntWalk.iteOmega]
  have r5 : w3.cell? ⟨w2.heap.size, 5, none⟩ = some (.int .i64 (q.m)) := by rw [hw3]; simp [go_sem, ↓IntWalk.iteOmega]
  have rl : w2.heap.size < w3.heap.size := by rw [hw3]; (simp <;> omega)
  clear hw3
  refine (SO.out w3 B3).mono ?_
  rintro e w4 ⟨hb4, code, arr, rfl, hslv⟩
  have hslv : slvR X.F X.T q code arr := hslv
  have B24 := B3.trans (hb4.mono B3.size)
  have g0 := (World.cell?_of_block (hb4.block _ rl)).trans r0
  have g1 := (World.cell?_of_block (hb4.block _ rl)).trans r1
  have g2 := (World.cell?_of_block (hb4.block _ rl)).trans r2
  have g3 := (World.cell?_of_block (hb4.block _ rl)).trans r3
  have g4 := (World.cell?_of_block (hb4.block _ rl)).trans r4
  have g5 := (World.cell?_of_block (hb4.block _ rl)).trans r5
  have gl4 := Nat.lt_of_lt_of_le rl hb4.size
  obtain ⟨rqb, hrqb⟩ : ∃ y, w2.heap.size = y := ⟨_, rfl⟩
  rw [hrqb] at g0 g1 g2 g3 g4 g5 gl4 ⊢
  have y0 := (World.cell?_of_block (B24.block _ hxl)).trans x0
  have hxl4 := Nat.lt_of_lt_of_le hxl B24.size
  have j0 := (World.cell?_of_block (B24.block _ kl)).trans k0
  have j1 := (World.cell?_of_block (B24.block _ kl)).trans k1
  have jz0 := (World.frozen?_of_block (B24.block _ kl)).trans kz0
  have jz1 := (World.frozen?_of_block (B24.block _ kl)).trans kz1
  have jl := Nat.lt_of_lt_of_le kl B24.size
  have HS4 := hid (HS2.out.below B24)
  have HSL := hid hslv
  have HB24 := hid B24
  have RO4 : Hid (∀ (w' : World) (arr : Int), Below w4.heap.size w4 w' → X.T.rOk q.r = true → (-4000000000 ≤ q.t ∧ q.t ≤ 4000000000) → (-8000000000 ≤ arr ∧ arr ≤ 8000000000) → Calls Try.prog 55 #[.pointer (some ⟨mb, 0, none⟩), .agg #[.int .i64 (q.r), .int .i64 (q.s), .int .i64 (q.t), .slice go gn gc, .int .i64 (q.h), .int .i64 (q.m)], .int .i64 (arr)] w' fun e w'' => e = .returned (.bool (decide (((X.T.trunc q.r q.t).held : Int) + (arr - q.t) + 1 ≤ (X.T.cap : Int)))) ∧ Below w'.heap.size w' w'') := fun w' arr h => RO.out w' arr (HB24.out.trans (h.mono HB24.out.size))
  clear B3 r0 r1 r2 r3 r4 r5 rl hb4 SO RO hrqb k0 k1 kz0 kz1 kl x0 hxl hslv HS2
  have HR : Hid (∀ e w', stPost lab mb (some X, mdAns false X.T q code arr) w e w' → ∃ code arr, slvR X.F X.T (rqOf ⟨6, A, B, C, Dd, E, l⟩) code arr ∧ stPost lab mb (some X, mdAns (decide ((6 : Int) = 5)) X.T (rqOf ⟨6, A, B, C, Dd, E, l⟩) code arr) w e w') := fun e w' h => ⟨code, arr, by rw [HQ.out]; exact HSL.out, by rw [HQ.out]; exact h⟩
  by_cases hc0 : code = 0
  · subst hc0
    have hans : mdAns false X.T q 0 arr = (0, [arr]) := by unfold mdAns; rw [if_neg (by simp), if_neg (by simp)]
    rw [hans] at HR
    obtain ⟨hrc, ha1, ha2⟩ := slv_arr HOK.out HSL.out
    have hrk := rok_of HOK.out hrc
    have hrt := hrk.t
    have hbb := HTB.out.base
    have HAI : Hid (I64 arr) := by unfold Hid I64; omega
    clear hans hrk hrc
    --BEGIN A
    go_wp2_with (first | (go_at_call 54; refine hold ?_))
    unfold Hid
    refine calls_nm fun w5 hw5 => ?_
    have B5 : Below w4.heap.size w4 w5 := by rw [hw5]; (repeat (first | with_reducible exact Below.rf _ | with_reducible exact World.below_ext _ _ | with_reducible refine Below.ex ?_ _ | with_reducible refine Below.al ?_ _ | with_reducible refine Below.setCell ?_ (by simp) _ | with_reducible refine Below.drew ?_))
    have hud : ∀ j, j < w4.heap.size → upd l2 w4.heap.size 0 j = l2 j := fun j hj => upd_ne _ _ (by omega)
    have S5 := hid ((HS4.out.relab hud).below B5)
    have I5 : Hid (Ints w5 (upd l2 w4.heap.size 0) (.slice (some ⟨w4.heap.size, 0, none⟩) 1 1) [arr]) := by
      unfold Hid
      rw [hw5]
      exact ints1 _ HAI.out
    obtain ⟨b0, b1, q5⟩ := S5.out.bq
    have k0 : w5.cell? ⟨w.heap.size + 1, 0, none⟩ = some b0 := q5.is 0 (by omega)
    have k1 : w5.cell? ⟨w.heap.size + 1, 1, none⟩ = some b1 := q5.is 1 (by omega)
    have kz0 := q5.fz 0 (by omega)
    have kz1 := q5.fz 1 (by omega)
    have kl := q5.lt
    clear B5 hud q5 hw5
    refine (ok54_any _ _ _ _).mono ?_
    rintro e w6 ⟨rfl, z6, rfl⟩
    go_wp2
    refine bodyPost_ret (v := .agg #[.int .u8 0, .slice (some ⟨w4.heap.size, 0, none⟩) 1 1]) (by simp [results, Try.results13, go_sem, ↓IntWalk.iteOmega, k0, k1]) rfl ?_
    exact HR.out _ _ ((st_fin S5.out hdl 0 _ _ I5.out).below (World.below_ext _ _))
    --END A
  · have hans : mdAns false X.T q code arr = (code, []) := by unfold mdAns; rw [if_pos hc0]
    rw [hans] at HR
    clear hans
    have dc : ((code : Int) == 0) = false := by simp; omega
    have dc2 : ((code : Int) != 0) = true := by simp; omega
    --BEGIN B
    go_wp2
    refine bodyPost_ret (v := .agg #[.int .u8 code, .slice none 0 0]) (by simp [results, Try.results13, go_sem, ↓IntWalk.iteOmega, j0, j1]) rfl ?_
    refine HR.out _ _ ?_
    exact st_fin HS4.out hdl code _ [] (Ints.nil _ _)
    --END B
set_option maxHeartbeats 8000000 in
theorem st_req5 (mb : Nat) (fv tv : Value) (o : Opr) (v : Value) (lab : Nat → Nat) (w : World) (X : MW) (h : MdAt w lab mb fv tv (some X)) (hv : Ints w lab v o.l) (hO : OpI o) (hnr : X.T.nr = X.F.bays.length) (hK : o.K = 5) (hodd : ¬ o.l.length % 2 = 1) :
    Calls Try.prog 13 #[.pointer (some ⟨mb, 0, none⟩), .agg #[.int .i64 ((o).K), .int .i64 ((o).A), .int .i64 ((o).B), .int .i64 ((o).C), .int .i64 ((o).D), .int .i64 ((o).E), v]] w (stReq lab mb X o w) := by
  unfold stReq
  obtain ⟨vo, vc, hvv, -⟩ := hv.ex
  have HV := hid hv
  have HD := hid h
  have hdl := h.b.lt
  have hol := hO.l
  clear hO
  obtain ⟨fb0, _, f0, -⟩ := h.wd
  have e0 : w.cell? ⟨mb, 0, none⟩ = some (.pointer (some ⟨fb0, 0, none⟩)) := by
    rw [h.b.is 0 (by omega)]
    show some fv = _
    rw [f0]
  obtain ⟨K, A, B, C, Dd, E, l⟩ := o
  simp only at hK
  subst hK
  have RQ := hid (fun (lb : Nat → Nat) (w' : World) (hI : Ints w' lb v l) => request_any ⟨5, A, B, C, Dd, E, l⟩ v lb w' hI hol)
  subst hvv
  simp only at *
  obtain ⟨ln, hln⟩ : ∃ y, l.length = y := ⟨_, rfl⟩
  rw [hln] at HV RQ hodd hol ⊢
  have HLN := hid hln
  clear h hv f0 hln
  go_enter Try.func13, Try.ntmps13
  go_wp2_with (first | (go_at_call 33; refine hold ?_))
  unfold Hid
  refine calls_nm fun w1 hw1 => ?_
  obtain ⟨l1, hS1⟩ := st_start (o := ⟨5, A, B, C, Dd, E, l⟩) HD.out HV.out (.int .u8 0) (.slice none 0 0) w1 hw1
  clear hw1 e0
  obtain ⟨l2, hl1, hl2⟩ : ∃ y : Nat → Nat, (∀ k, k < w1.heap.size → y k = l1 k) ∧ ∀ k, w1.heap.size ≤ k → y k = 0 := ⟨fun b => if b < w1.heap.size then l1 b else 0, fun k hk => if_pos hk, fun k hk => if_neg (by omega)⟩
  refine (RQ.out l1 w1 hS1.iv).mono ?_
  rintro e w2 ⟨hb2, hr2⟩
  rw [if_neg (by simp only; rw [HLN.out]; exact hodd)] at hr2
  obtain ⟨gv, hr2, hG2⟩ := hr2
  subst hr2
  have S2 := (hS1.relab hl1).below hb2
  have hG := hG2 l2 hl2
  obtain ⟨q, hq⟩ : ∃ y, rqOf ⟨5, A, B, C, Dd, E, l⟩ = y := ⟨_, rfl⟩
  have hqr : A = q.r := by rw [← hq]; rfl
  have hqs : B = q.s := by rw [← hq]; rfl
  have hqt : C = q.t := by rw [← hq]; rfl
  have hqh : Dd = q.h := by rw [← hq]; rfl
  have hqm : E = q.m := by rw [← hq]; rfl
  have hqg : gls l = q.gl := by rw [← hq]; rfl
  have HQ := hid hq
  simp only at hG ⊢
  rw [hqg] at hG
  rw [hqr, hqs, hqt, hqh, hqm]
  rw [hqr, hqs, hqt, hqh, hqm] at S2
  obtain ⟨go, gc, hgx, -⟩ := hG.ex
  obtain ⟨gn, hgn⟩ : ∃ y, q.gl.length = y := ⟨_, rfl⟩
  rw [hgn] at hgx
  subst hgx
  obtain ⟨fb, M, f1, f2, hF, hT⟩ := S2.a.wd
  have e0 : w2.cell? ⟨mb, 0, none⟩ = some (.pointer (some ⟨fb, 0, none⟩)) := by
    rw [S2.a.b.is 0 (by omega)]
    show some fv = _
    rw [f1]
  have e1 : w2.cell? ⟨mb, 1, none⟩ = some (.pointer (some ⟨M.t, 0, none⟩)) := by
    rw [S2.a.b.is 1 (by omega)]
    show some tv = _
    rw [f2]
  have hm2 : MoAt w2 mb fb M.t := ⟨e0, e1, S2.a.b.lt⟩
  have x0 : w2.cell? ⟨w.heap.size, 0, none⟩ = some (.int .i64 (5)) := S2.bx.is 0 (by omega)
  have hxl := S2.bx.lt
  obtain ⟨a0, a1, q3⟩ := S2.bq
  have k0 : w2.cell? ⟨w.heap.size + 1, 0, none⟩ = some a0 := q3.is 0 (by omega)
  have k1 : w2.cell? ⟨w.heap.size + 1, 1, none⟩ = some a1 := q3.is 1 (by omega)
  have kz0 := q3.fz 0 (by omega)
  have kz1 := q3.fz 1 (by omega)
  have kl := q3.lt
  have SO : Hid (∀ w', Below w2.heap.size w2 w' → Calls Try.prog 34 #[.pointer (some ⟨mb, 0, none⟩), .agg #[.int .i64 (q.r), .int .i64 (q.s), .int .i64 (q.t), .slice go gn gc, .int .i64 (q.h), .int .i64 (q.m)]] w' (slvP w' X.F X.T q)) := fun w' h => solve_any mb fb M X.F X.T l2 q (.slice go gn gc) w' (hF.below h) (hT.below h) (hm2.below h) (hG.below h)
  have HOK : Hid (FOk X.F) := hF.ok
  have HTB := hid hT.bd
  have RO : Hid (∀ (w' : World) (arr : Int), Below w2.heap.size w2 w' → X.T.rOk q.r = true → (-4000000000 ≤ q.t ∧ q.t ≤ 4000000000) → (-8000000000 ≤ arr ∧ arr ≤ 8000000000) → Calls Try.prog 55 #[.pointer (some ⟨mb, 0, none⟩), .agg #[.int .i64 (q.r), .int .i64 (q.s), .int .i64 (q.t), .slice go gn gc, .int .i64 (q.h), .int .i64 (q.m)], .int .i64 (arr)] w' fun e w'' => e = .returned (.bool (decide (((X.T.trunc q.r q.t).held : Int) + (arr - q.t) + 1 ≤ (X.T.cap : Int)))) ∧ Below w'.heap.size w' w'') := fun w' arr h h1 h2 h3 => room_any mb fb M X.T l2 q (.slice go gn gc) arr w' (hT.below h) (hm2.below h) h1 h2 h3
  have HS2 := hid S2
  clear q3 S2 hS1 hb2 RQ hG hG2 hF hT f1 f2 hqr hqs hqt hqh hqm hqg hq hgn hl1 hl2 e0 e1 hm2
  go_wp2_with (first | (go_at_call 34; refine hold ?_))
  unfold Hid
  refine calls_nm fun w3 hw3 => ?_
  have B3 : Below w2.heap.size w2 w3 := by rw [hw3]; (repeat (first | with_reducible exact Below.rf _ | with_reducible exact World.below_ext _ _ | with_reducible refine Below.ex ?_ _ | with_reducible refine Below.al ?_ _ | with_reducible refine Below.setCell ?_ (by simp) _ | with_reducible refine Below.drew ?_))
  have r0 : w3.cell? ⟨w2.heap.size, 0, none⟩ = some (.int .i64 (q.r)) := by rw [hw3]; simp [go_sem, ↓IntWalk.iteOmega]
  have r1 : w3.cell? ⟨w2.heap.size, 1, none⟩ = some (.int .i64 (q.s)) := by rw [hw3]; simp [go_sem, ↓IntWalk.iteOmega]
  have r2 : w3.cell? ⟨w2.heap.size, 2, none⟩ = some (.int .i64 (q.t)) := by rw [hw3]; simp [go_sem, ↓IntWalk.iteOmega]
  have r3 : w3.cell? ⟨w2.heap.size, 3, none⟩ = some (.slice go gn gc) := by rw [hw3]; simp [go_sem, ↓IntWalk.iteOmega]
  have r4 : w3.cell? ⟨w2.heap.size, 4, none⟩ = some (.int .i64 (q.h)) := by rw [hw3]; simp [go_sem, ↓IntWalk.iteOmega]
  have r5 : w3.cell? ⟨w2.heap.size, 5, none⟩ = some (.int .i64 (q.m)) := by rw [hw3]; simp [go_sem, ↓IntWalk.iteOmega]
  have rl : w2.heap.size < w3.heap.size := by rw [hw3]; (simp <;> omega)
  clear hw3
  refine (SO.out w3 B3).mono ?_
  rintro e w4 ⟨hb4, code, arr, rfl, hslv⟩
  have hslv : slvR X.F X.T q code arr := hslv
  have B24 := B3.trans (hb4.mono B3.size)
  have g0 := (World.cell?_of_block (hb4.block _ rl)).trans r0
  have g1 := (World.cell?_of_block (hb4.block _ rl)).trans r1
  have g2 := (World.cell?_of_block (hb4.block _ rl)).trans r2
  have g3 := (World.cell?_of_block (hb4.block _ rl)).trans r3
  have g4 := (World.cell?_of_block (hb4.block _ rl)).trans r4
  have g5 := (World.cell?_of_block (hb4.block _ rl)).trans r5
  have gl4 := Nat.lt_of_lt_of_le rl hb4.size
  obtain ⟨rqb, hrqb⟩ : ∃ y, w2.heap.size = y := ⟨_, rfl⟩
  rw [hrqb] at g0 g1 g2 g3 g4 g5 gl4 ⊢
  have y0 := (World.cell?_of_block (B24.block _ hxl)).trans x0
  have hxl4 := Nat.lt_of_lt_of_le hxl B24.size
  have j0 := (World.cell?_of_block (B24.block _ kl)).trans k0
  have j1 := (World.cell?_of_block (B24.block _ kl)).trans k1
  have jz0 := (World.frozen?_of_block (B24.block _ kl)).trans kz0
  have jz1 := (World.frozen?_of_block (B24.block _ kl)).trans kz1
  have jl := Nat.lt_of_lt_of_le kl B24.size
  have HS4 := hid (HS2.out.below B24)
  have HSL := hid hslv
  have HB24 := hid B24
  have RO4 : Hid (∀ (w' : World) (arr : Int), Below w4.heap.size w4 w' → X.T.rOk q.r = true → (-4000000000 ≤ q.t ∧ q.t ≤ 4000000000) → (-8000000000 ≤ arr ∧ arr ≤ 8000000000) → Calls Try.prog 55 #[.pointer (some ⟨mb, 0, none⟩), .agg #[.int .i64 (q.r), .int .i64 (q.s), .int .i64 (q.t), .slice go gn gc, .int .i64 (q.h), .int .i64 (q.m)], .int .i64 (arr)] w' fun e w'' => e = .returned (.bool (decide (((X.T.trunc q.r q.t).held : Int) + (arr - q.t) + 1 ≤ (X.T.cap : Int)))) ∧ Below w'.heap.size w' w'') := fun w' arr h => RO.out w' arr (HB24.out.trans (h.mono HB24.out.size))
  clear B3 r0 r1 r2 r3 r4 r5 rl hb4 SO RO hrqb k0 k1 kz0 kz1 kl x0 hxl hslv HS2
  have HR : Hid (∀ e w', stPost lab mb (some X, mdAns true X.T q code arr) w e w' → ∃ code arr, slvR X.F X.T (rqOf ⟨5, A, B, C, Dd, E, l⟩) code arr ∧ stPost lab mb (some X, mdAns (decide ((5 : Int) = 5)) X.T (rqOf ⟨5, A, B, C, Dd, E, l⟩) code arr) w e w') := fun e w' h => ⟨code, arr, by rw [HQ.out]; exact HSL.out, by rw [HQ.out]; exact h⟩
  by_cases hc0 : code = 0
  · subst hc0
    obtain ⟨hrc, ha1, ha2⟩ := slv_arr HOK.out HSL.out
    have hrk := rok_of HOK.out hrc
    have hrt := hrk.t
    have hrr := hrk.r
    have hbb := HTB.out.base
    have HAI : Hid (I64 arr) := by unfold Hid I64; omega
    have hro : X.T.rOk q.r = true := by unfold TS.rOk; simp; omega
    have RO5 : Hid (∀ w', Below w4.heap.size w4 w' → Calls Try.prog 55 #[.pointer (some ⟨mb, 0, none⟩), .agg #[.int .i64 (q.r), .int .i64 (q.s), .int .i64 (q.t), .slice go gn gc, .int .i64 (q.h), .int .i64 (q.m)], .int .i64 (arr)] w' fun e w'' => e = .returned (.bool (decide (((X.T.trunc q.r q.t).held : Int) + (arr - q.t) + 1 ≤ (X.T.cap : Int)))) ∧ Below w'.heap.size w' w'') := fun w' h => RO4.out w' arr h hro (by omega) (by omega)
    clear RO4 hrk hrc hro
    by_cases hrm : ((X.T.trunc q.r q.t).held : Int) + (arr - q.t) + 1 ≤ (X.T.cap : Int)
    · have hans : mdAns true X.T q 0 arr = (0, [arr]) := by unfold mdAns; rw [if_neg (by simp), if_neg (fun h => h.2 hrm)]
      rw [hans] at HR
      rw [show decide (((X.T.trunc q.r q.t).held : Int) + (arr - q.t) + 1 ≤ (X.T.cap : Int)) = true by simp only [decide_eq_true_eq]; exact hrm] at RO5
      clear hans hrm
      --BEGIN C
      go_wp2_with (first | (go_at_call 55; refine hold ?_))
      unfold Hid
      refine (RO5.out _ (by (repeat (first | with_reducible exact Below.rf _ | with_reducible exact World.below_ext _ _ | with_reducible refine Below.ex ?_ _ | with_reducible refine Below.al ?_ _ | with_reducible refine Below.setCell ?_ (by simp) _ | with_reducible refine Below.drew ?_)))).mono ?_
      rintro e w7 ⟨rfl, hb7⟩
      have HS7 := hid (HS4.out.below hb7)
      clear hb7 RO5 j0 j1 jz0 jz1 jl g0 g1 g2 g3 g4 g5 gl4 y0 hxl4
      go_wp2_with (first | (go_at_call 54; refine hold ?_))
      unfold Hid
      refine calls_nm fun w5 hw5 => ?_
      have B5 : Below w7.heap.size w7 w5 := by rw [hw5]; (repeat (first | with_reducible exact Below.rf _ | with_reducible exact World.below_ext _ _ | with_reducible refine Below.ex ?_ _ | with_reducible refine Below.al ?_ _ | with_reducible refine Below.setCell ?_ (by simp) _ | with_reducible refine Below.drew ?_))
      have hud : ∀ j, j < w7.heap.size → upd l2 w7.heap.size 0 j = l2 j := fun j hj => upd_ne _ _ (by omega)
      have S5 := hid ((HS7.out.relab hud).below B5)
      have I5 : Hid (Ints w5 (upd l2 w7.heap.size 0) (.slice (some ⟨w7.heap.size, 0, none⟩) 1 1) [arr]) := by
        unfold Hid
        rw [hw5]
        exact ints1 _ HAI.out
      obtain ⟨b0, b1, q5⟩ := S5.out.bq
      have k0 : w5.cell? ⟨w.heap.size + 1, 0, none⟩ = some b0 := q5.is 0 (by omega)
      have k1 : w5.cell? ⟨w.heap.size + 1, 1, none⟩ = some b1 := q5.is 1 (by omega)
      have kz0 := q5.fz 0 (by omega)
      have kz1 := q5.fz 1 (by omega)
      have kl := q5.lt
      clear B5 hud q5 hw5
      refine (ok54_any _ _ _ _).mono ?_
      rintro e w6 ⟨rfl, z6, rfl⟩
      go_wp2
      refine bodyPost_ret (v := .agg #[.int .u8 0, .slice (some ⟨w7.heap.size, 0, none⟩) 1 1]) (by simp [results, Try.results13, go_sem, ↓IntWalk.iteOmega, k0, k1]) rfl ?_
      exact HR.out _ _ ((st_fin S5.out hdl 0 _ _ I5.out).below (World.below_ext _ _))
      --END C
    · have hans : mdAns true X.T q 0 arr = (6, []) := by unfold mdAns; rw [if_neg (by simp), if_pos ⟨rfl, hrm⟩]
      rw [hans] at HR
      rw [show decide (((X.T.trunc q.r q.t).held : Int) + (arr - q.t) + 1 ≤ (X.T.cap : Int)) = false by simp only [decide_eq_false_iff_not]; exact hrm] at RO5
      clear hans hrm
      --BEGIN D
      go_wp2_with (first | (go_at_call 55; refine hold ?_))
      unfold Hid
      refine (RO5.out _ (by (repeat (first | with_reducible exact Below.rf _ | with_reducible exact World.below_ext _ _ | with_reducible refine Below.ex ?_ _ | with_reducible refine Below.al ?_ _ | with_reducible refine Below.setCell ?_ (by simp) _ | with_reducible refine Below.drew ?_)))).mono ?_
      rintro e w7 ⟨rfl, hb7⟩
      have HS7 := hid (HS4.out.below hb7)
      have i0 := (World.cell?_of_block (hb7.block _ jl)).trans j0
      have i1 := (World.cell?_of_block (hb7.block _ jl)).trans j1
      have iz0 := (World.frozen?_of_block (hb7.block _ jl)).trans jz0
      have iz1 := (World.frozen?_of_block (hb7.block _ jl)).trans jz1
      have il := Nat.lt_of_lt_of_le jl hb7.size
      clear hb7 RO5 j0 j1 jz0 jz1 jl g0 g1 g2 g3 g4 g5 gl4 y0 hxl4
      go_wp2
      refine bodyPost_ret (v := .agg #[.int .u8 6, .slice none 0 0]) (by simp [results, Try.results13, go_sem, ↓IntWalk.iteOmega, i0, i1]) rfl ?_
      refine HR.out _ _ ?_
      exact st_fin HS7.out hdl 6 _ [] (Ints.nil _ _)
      --END D
  · have hans : mdAns true X.T q code arr = (code, []) := by unfold mdAns; rw [if_pos hc0]
    rw [hans] at HR
    clear hans
    have dc : ((code : Int) == 0) = false := by simp; omega
    have dc2 : ((code : Int) != 0) = true := by simp; omega
    --BEGIN E
    go_wp2
    refine bodyPost_ret (v := .agg #[.int .u8 code, .slice none 0 0]) (by simp [results, Try.results13, go_sem, ↓IntWalk.iteOmega, j0, j1]) rfl ?_
    refine HR.out _ _ ?_
    exact st_fin HS4.out hdl code _ [] (Ints.nil _ _)
    --END E
end Go.Proofs.Qxb6500716a
