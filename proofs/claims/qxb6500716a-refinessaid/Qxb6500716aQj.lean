/-
  Search, Plan: the walks.
-/
import Derived.Test.Qxb6500716aQh
namespace Go.Proofs.Qxb6500716a
open Go.RowKit Go.Maps
set_option linter.unusedSimpArgs false
set_option linter.unusedVariables false
set_option maxRecDepth 20000
set_option maxHeartbeats 4000000

/-- The counts behind an answer. -/
def PS.note (S : PS) (p : Pl) : PS := { S with st := noteSt S.st p.c p.x p.path.length }
/-- What 'Search' leaves and answers. -/
def PS.ask (F : FS) (T : TS) (q : Rq) (S : PS) : PS × Pl := ((PS.search F T q S).1.note (PS.search F T q S).2, (PS.search F T q S).2)
/-- The answer of 'Plan' behind what 'enter' said. -/
def entP (q : Rq) (p : Pl) (c : Nat) : Pl := if c ≠ 0 then Pl.fail q.t c p.x else p
/-- What 'Plan' leaves and answers. -/
def PS.plan (F : FS) (T : TS) (q : Rq) (S : PS) : PS × TS × Pl :=
  if (PS.search F T q S).2.c = 0 then ((PS.search F T q S).1.note (entP q (PS.search F T q S).2 (T.enter q.r q.t (PS.search F T q S).2.path).1), (T.enter q.r q.t (PS.search F T q S).2.path).2, entP q (PS.search F T q S).2 (T.enter q.r q.t (PS.search F T q S).2.path).1)
  else ((PS.search F T q S).1.note (PS.search F T q S).2, T, (PS.search F T q S).2)
theorem search_x {F : FS} {T : TS} {q : Rq} {S : PS} (hF : FOk F) (hms : S.ms ≤ 4000000) : 0 ≤ (PS.search F T q S).2.x ∧ (PS.search F T q S).2.x ≤ 1048576 := by
  have h := (search_ok (T := T) (q := q) hF hms).x
  by_cases hr : rcode F T q = 0
  · have := (rok_of hF hr).m
    omega
  · refine ⟨h.1, ?_⟩
    unfold PS.search
    rw [if_pos hr]
    simp [Pl.fail]
def askPost (lab : Nat → Nat) (M : TM) (N : PM) (fb : Nat) (X : PS × Pl) (w : World) (e : Ending) (w' : World) : Prop :=
  ∃ (lab' : Nat → Nat) (N' : PM) (n' : Nat) (v : Value), e = .returned v ∧ PAt w' lab' N' fb M.t X.1 n' ∧ N'.p = N.p ∧ (∀ k, k < w.heap.size → lab' k = lab k) ∧ KeptL lab seaL w w' ∧ PlV w' lab' v X.2
def plnL (x : Nat) : Prop := 2 ≤ x ∧ x ≤ 9
def planPost (lab : Nat → Nat) (M : TM) (N : PM) (fb : Nat) (X : PS × TS × Pl) (w : World) (e : Ending) (w' : World) : Prop :=
  ∃ (lab' : Nat → Nat) (M' : TM) (N' : PM) (n' : Nat) (v : Value), e = .returned v ∧ TAt w' lab' M' X.2.1 ∧ M'.t = M.t ∧ PAt w' lab' N' fb M.t X.1 n' ∧ N'.p = N.p ∧ (∀ k, k < w.heap.size → lab' k = lab k) ∧ KeptL lab plnL w w' ∧ PlV w' lab' v X.2.2
theorem set5_keptL {l5 : Nat → Nat} {wr : World} {qb : Nat} (hl : l5 qb = 1) (v0 v1 v2 v3 v4 : Value) : KeptL l5 (fun x => x = 1) wr (((((wr.setCell ⟨qb, 0, none⟩ v0).setCell ⟨qb, 1, none⟩ v1).setCell ⟨qb, 2, none⟩ v2).setCell ⟨qb, 3, none⟩ v3).setCell ⟨qb, 4, none⟩ v4) := by
  refine KeptL.set ?_ hl _
  refine KeptL.set ?_ hl _
  refine KeptL.set ?_ hl _
  refine KeptL.set ?_ hl _
  refine KeptL.set ?_ hl _
  exact KeptL.refl _ _ _
theorem set5_keptN {lab : Nat → Nat} {A : Nat → Prop} {w wr : World} {qb : Nat} (h : KeptL lab A w wr) (hq : w.heap.size ≤ qb) (v0 v1 v2 v3 v4 : Value) : KeptL lab A w (((((wr.setCell ⟨qb, 0, none⟩ v0).setCell ⟨qb, 1, none⟩ v1).setCell ⟨qb, 2, none⟩ v2).setCell ⟨qb, 3, none⟩ v3).setCell ⟨qb, 4, none⟩ v4) := by
  refine KeptL.setN ?_ (by omega) _
  refine KeptL.setN ?_ (by omega) _
  refine KeptL.setN ?_ (by omega) _
  refine KeptL.setN ?_ (by omega) _
  refine KeptL.setN ?_ (by omega) _
  exact h
set_option maxHeartbeats 40000000 in
theorem ask_any (M : TM) (T : TS) (N : PM) (S : PS) (n fb : Nat) (F : FS) (lab : Nat → Nat) (q : Rq) (gv : Value) (w : World) (hF : FAt w lab fb F) (hT : TAt w lab M T) (hP : PAt w lab N fb M.t S n) (hg : GAt w lab gv q.gl) (hI : RqI q) (hms : S.ms ≤ 4000000) (hst : ∀ i, i < 11 → -1000000000000 ≤ S.st i ∧ S.st i ≤ 1000000000000) :
    Calls Try.prog 35 #[.pointer (some ⟨N.p, 0, none⟩), .agg #[.int .i64 ((q).r), .int .i64 ((q).s), .int .i64 ((q).t), gv, .int .i64 ((q).h), .int .i64 ((q).m)]] w (askPost lab M N fb (PS.ask F T q S) w) := by
  have hud : ∀ j, j < w.heap.size → (fun b => if b < w.heap.size then lab b else if b = w.heap.size + 1 then 1 else 0) j = lab j := fun j hj => if_pos hj
  have hu0 : (fun b => if b < w.heap.size then lab b else if b = w.heap.size + 1 then 1 else 0) w.heap.size = 0 := by simp
  have hu1 : (fun b => if b < w.heap.size then lab b else if b = w.heap.size + 1 then 1 else 0) (w.heap.size + 1) = 1 := by show (if _ then _ else _) = 1; rw [if_neg (by omega), if_pos rfl]
  obtain ⟨lb1, hlb1⟩ : ∃ y, (fun b => if b < w.heap.size then lab b else if b = w.heap.size + 1 then 1 else 0) = y := ⟨_, rfl⟩
  rw [hlb1] at hud hu0 hu1
  have hz1 : ∀ b, b < w.heap.size → (lab b = 0 ∨ 10 ≤ lab b) → (lb1 b = 0 ∨ 10 ≤ lb1 b) := fun b hb hx => by rw [hud b hb]; exact hx
  have SE := hid (fun (w' : World) (h : Below w.heap.size w w') => search_any M T N S n fb F lb1 q gv w' ((hF.relab hz1).below h) ((hT.relab hud).below h) ((hP.relab hud).below h) ((hg.relab hz1).below h) hI hms)
  have HOK := hid (search_ok (T := T) (q := q) hF.ok hms)
  have HSX := hid (search_x (T := T) (q := q) hF.ok hms)
  unfold PS.ask
  obtain ⟨X, hX⟩ : ∃ y, PS.search F T q S = y := ⟨_, rfl⟩
  rw [hX] at HOK HSX ⊢
  have SE2 : Hid (∀ (w' : World), Below w.heap.size w w' → Calls Try.prog 65 #[.pointer (some ⟨N.p, 0, none⟩), .agg #[.int .i64 ((q).r), .int .i64 ((q).s), .int .i64 ((q).t), gv, .int .i64 ((q).h), .int .i64 ((q).m)]] w' fun e w'' => ∃ (lab' : Nat → Nat) (N' : PM) (n' : Nat) (v : Value), e = .returned v ∧ PAt w'' lab' N' fb M.t X.1 n' ∧ N'.p = N.p ∧ (∀ k, k < w'.heap.size → lab' k = lb1 k) ∧ KeptL lb1 seaL w' w'' ∧ PlV w'' lab' v X.2) := fun w' h => by
    have := SE.out w' h
    unfold searchPost at this
    rw [hX] at this
    exact this
  obtain ⟨go, gc, hgv, -⟩ := hg.ex
  subst hgv
  generalize q.gl.length = k at *
  have HU := hid (And.intro hud (And.intro hu0 hu1))
  have HST := hid hst
  clear hF hT hP hg hI hms hst hX SE hud hu0 hu1 hlb1 hz1
  obtain ⟨S2, p⟩ := X
  simp only at *
  go_enter Try.func35, Try.ntmps35
  go_wp2_with (first | (go_at_call 65; refine calls_nm fun w3 hw3 => ?_; refine hold ?_))
  unfold Hid
  have B3 : Below w.heap.size w w3 := by rw [hw3]; (repeat (first | with_reducible exact Below.rf _ | with_reducible exact World.below_ext _ _ | with_reducible refine Below.ex ?_ _ | with_reducible refine Below.al ?_ _ | with_reducible refine Below.setCell ?_ (by simp) _ | with_reducible refine Below.drew ?_))
  have X3 : Blk w3 w.heap.size 6 (qcell q (.slice go k gc)) := by
    rw [hw3]
    refine ⟨by (simp <;> omega), fun i hi => ?_, fun i hi => by simp [go_sem, ↓IntWalk.iteOmega]⟩
    rcases (by omega : i = 0 ∨ i = 1 ∨ i = 2 ∨ i = 3 ∨ i = 4 ∨ i = 5) with rfl | rfl | rfl | rfl | rfl | rfl <;> simp [go_sem, ↓IntWalk.iteOmega, qcell]
  have Q3 : Blk w3 (w.heap.size + 1) 5 (c5f (.int .u8 0) (.int .i64 (0)) (.slice none 0 0) (.slice none 0 0) (.int .i64 (0))) := by
    rw [hw3]
    refine ⟨by (simp <;> omega), fun i hi => ?_, fun i hi => by simp [go_sem, ↓IntWalk.iteOmega]⟩
    rcases (by omega : i = 0 ∨ i = 1 ∨ i = 2 ∨ i = 3 ∨ i = 4) with rfl | rfl | rfl | rfl | rfl <;> simp [go_sem, ↓IntWalk.iteOmega, c5f]
  clear hw3
  refine (SE2.out _ B3).mono ?_
  rintro e w4 ⟨l4, N4, n4, v, rfl, hP4, hN4, hl4, hk4, hV4⟩
  obtain ⟨hud, hu0, hu1⟩ := HU.out
  have hs3 := B3.size
  have Q4 := Q3.keptL hk4 (by rw [hu1]; unfold seaL; omega)
  have lq4 : l4 (w.heap.size + 1) = 1 := (hl4 _ Q3.lt).trans hu1
  have g4 : ∀ j, j < w.heap.size → l4 j = lab j := fun j hj => (hl4 j (by omega)).trans (hud j hj)
  have k4 : KeptL lab seaL w w4 := (KeptL.of_below B3).trans' hk4 hud
  have HV4 := hid hV4
  obtain ⟨pv, dv, hv, hi1, hi2, -⟩ := hV4
  obtain ⟨po, pc, hpv, -⟩ := hi1.ex
  obtain ⟨dq, dc, hdv, -⟩ := hi2.ex
  subst hv hpv hdv
  have NT : Hid (∀ w' : World, Below w4.heap.size w4 w' → Calls Try.prog 64 #[.pointer (some ⟨N.p, 0, none⟩), .agg #[.int .u8 (p.c), .int .i64 (p.t), .slice po p.path.length pc, .slice dq p.done.length dc, .int .i64 (p.x)]] w' fun e w'' => e = .returned (.agg #[.int .u8 (p.c), .int .i64 (p.t), .slice po p.path.length pc, .slice dq p.done.length dc, .int .i64 (p.x)]) ∧ PAt w'' l4 N4 fb M.t (S2.note p) n4 ∧ KeptL l4 (fun y => y = 5) w' w'') := fun w' h => by
    rw [← hN4]
    exact note_any N4 S2 n4 fb M.t l4 p.c p.t p.x po _ pc dq _ dc w' (hP4.below h) HOK.out.c (by rw [HOK.out.st]; exact HST.out) ⟨by have := HSX.out; omega, by have := HSX.out; omega⟩ (by have := HOK.out.ln; simp only at this; omega)
  have KK := hid (And.intro Q4 (And.intro lq4 (And.intro g4 (And.intro k4 hN4))))
  clear hi1 hi2 X3 Q3 Q4 lq4 g4 k4 hN4 hl4 hk4 hud hu0 hu1 HU B3 hs3 SE2 hP4
  generalize p.path.length = pn at *
  generalize p.done.length = dn at *
  go_wp2_with (first | (go_at_call 64; refine hold ?_))
  unfold Hid
  refine (NT.out _ (Below.rf _)).mono ?_
  rintro e w5 ⟨rfl, hP5, hk5⟩
  obtain ⟨Q4, lq4, g4, k4, hN4⟩ := KK.out
  have Q5 := Q4.keptL hk5 (by rw [lq4]; omega)
  have k5 := k4.trans' (hk5.mono (fun x hx => by (unfold seaL; omega))) g4
  have V5 := HV4.out.keptL hk5 (fun x hx => by omega)
  have H5 := hid (And.intro hP5 (And.intro k5 (And.intro V5 (And.intro lq4 (And.intro g4 hN4)))))
  have r0 : (w5).cell? ⟨w.heap.size + 1, 0, none⟩ = some (.int .u8 0) := (Q5).is 0 (by omega)
  have r1 : (w5).cell? ⟨w.heap.size + 1, 1, none⟩ = some (.int .i64 (0)) := (Q5).is 1 (by omega)
  have r2 : (w5).cell? ⟨w.heap.size + 1, 2, none⟩ = some (.slice none 0 0) := (Q5).is 2 (by omega)
  have r3 : (w5).cell? ⟨w.heap.size + 1, 3, none⟩ = some (.slice none 0 0) := (Q5).is 3 (by omega)
  have r4 : (w5).cell? ⟨w.heap.size + 1, 4, none⟩ = some (.int .i64 (0)) := (Q5).is 4 (by omega)
  have z0 := (Q5).fz 0 (by omega)
  have z1 := (Q5).fz 1 (by omega)
  have z2 := (Q5).fz 2 (by omega)
  have z3 := (Q5).fz 3 (by omega)
  have z4 := (Q5).fz 4 (by omega)
  have hql := (Q5).lt
  clear Q4 lq4 g4 k4 hN4 Q5 k5 V5 hP5 hk5 NT KK HV4
  go_wp2
  refine bodyPost_ret (v := .agg #[.int .u8 (p.c), .int .i64 (p.t), .slice po pn pc, .slice dq dn dc, .int .i64 (p.x)]) (by simp [results, Try.results35, go_sem, ↓IntWalk.iteOmega, r0, r1, r2, r3, r4]) rfl ?_
  obtain ⟨hP5, k5, V5, lq4, g4, hN4⟩ := H5.out
  have f3 := set5_keptL (wr := w5) lq4 (.int .u8 p.c) (.int .i64 (p.t)) (.slice po pn pc) (.slice dq dn dc) (.int .i64 (p.x))
  exact ⟨l4, N4, n4, _, rfl, hP5.keptL f3 (fun x hx => by omega), hN4, g4, set5_keptN k5 (by omega) _ _ _ _ _, V5.keptL f3 (fun x hx => by omega)⟩
end Go.Proofs.Qxb6500716a
