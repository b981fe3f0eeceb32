/-
  do: what a request does to the desk.
-/
import Derived.Test.Qxb6500716aDd
namespace Go.Proofs.Qxb6500716a
open Go.RowKit Go.Maps
set_option linter.unusedSimpArgs false
set_option linter.unusedVariables false
set_option maxRecDepth 20000
set_option maxHeartbeats 4000000

def rqOf (o : Opr) : Rq := ⟨o.A, o.B, o.C, gls o.l, o.D, o.E⟩
theorem setq_kept (d : Nat) (q : Rq) (gv : Value) (w : World) : KeptBut d w ((((((((w).setCell ⟨d, 3, none⟩ (.bool true)).setCell ⟨d, 4, none⟩ (.int .i64 (q.r))).setCell ⟨d, 5, none⟩ (.int .i64 (q.s))).setCell ⟨d, 6, none⟩ (.int .i64 (q.t))).setCell ⟨d, 7, none⟩ gv).setCell ⟨d, 8, none⟩ (.int .i64 (q.h))).setCell ⟨d, 9, none⟩ (.int .i64 (q.m))) := by
  refine KeptBut.set ?_ (Or.inl (by rfl)) _
  refine KeptBut.set ?_ (Or.inl (by rfl)) _
  refine KeptBut.set ?_ (Or.inl (by rfl)) _
  refine KeptBut.set ?_ (Or.inl (by rfl)) _
  refine KeptBut.set ?_ (Or.inl (by rfl)) _
  refine KeptBut.set ?_ (Or.inl (by rfl)) _
  refine KeptBut.set ?_ (Or.inl (by rfl)) _
  exact KeptBut.refl _ _
theorem DoS.req {lab : Nat → Nat} {w : World} {d : Nat} {o : Opr} {v : Value} {wr : World} {l : Nat → Nat} {m : DM} {D : Dk} (h : DoS lab w d o v wr l m D) (hd : d < w.heap.size) (q : Rq) (gv : Value) (hg : GAt wr l gv q.gl) :
    DoS lab w d o v ((((((((wr).setCell ⟨d, 3, none⟩ (.bool true)).setCell ⟨d, 4, none⟩ (.int .i64 (q.r))).setCell ⟨d, 5, none⟩ (.int .i64 (q.s))).setCell ⟨d, 6, none⟩ (.int .i64 (q.t))).setCell ⟨d, 7, none⟩ gv).setCell ⟨d, 8, none⟩ (.int .i64 (q.h))).setCell ⟨d, 9, none⟩ (.int .i64 (q.m))) l { m with gv := gv } { D with ask := true, q := q } := by
  have kb := setq_kept d q gv wr
  have k1 := KeptL.of_but (lab := l) (A := fun x => x = 1) kb h.a.ld
  have a := h.a
  refine ⟨⟨?_, a.ld, ?_, hg.keptL k1 (fun x hx => by omega), a.pp.keptL k1 (fun x hx => by omega), a.pd.keptL k1 (fun x hx => by omega), a.nl⟩, h.bx.kept kb (by omega), h.lx, bq_map h.bq (fun a0 a1 hy => (hy.kept kb (by omega))), h.lq, h.iv.keptL k1 (fun x hx => by omega), h.g, h.k.but kb h.a.ld h.g⟩
  · refine (((((((a.b.set 3 _ (by omega)).set 4 _ (by omega)).set 5 _ (by omega)).set 6 _ (by omega)).set 7 _ (by omega)).set 8 _ (by omega)).set 9 _ (by omega)).congr (fun i hi => ?_)
    rcases (by omega : i = 0 ∨ i = 1 ∨ i = 2 ∨ i = 3 ∨ i = 4 ∨ i = 5 ∨ i = 6 ∨ i = 7 ∨ i = 8 ∨ i = 9 ∨ i = 10 ∨ i = 11 ∨ i = 12 ∨ i = 13 ∨ i = 14) with rfl | rfl | rfl | rfl | rfl | rfl | rfl | rfl | rfl | rfl | rfl | rfl | rfl | rfl | rfl <;> rfl
  · have := a.wd.keptL k1 (fun x hx => hx)
    cases hW : D.W with
    | none => rw [hW] at this; exact this
    | some X => rw [hW] at this; exact this
theorem setp_kept (d : Nat) (p : Pl) (pa da : Value) (w : World) : KeptBut d w ((((((w).setCell ⟨d, 10, none⟩ (.int .u8 p.c)).setCell ⟨d, 11, none⟩ (.int .i64 (p.t))).setCell ⟨d, 12, none⟩ pa).setCell ⟨d, 13, none⟩ da).setCell ⟨d, 14, none⟩ (.int .i64 (p.x))) := by
  refine KeptBut.set ?_ (Or.inl (by rfl)) _
  refine KeptBut.set ?_ (Or.inl (by rfl)) _
  refine KeptBut.set ?_ (Or.inl (by rfl)) _
  refine KeptBut.set ?_ (Or.inl (by rfl)) _
  refine KeptBut.set ?_ (Or.inl (by rfl)) _
  exact KeptBut.refl _ _
theorem DoS.plan {lab : Nat → Nat} {w : World} {d : Nat} {o : Opr} {v : Value} {wr : World} {l : Nat → Nat} {m : DM} {D : Dk} (h : DoS lab w d o v wr l m D) (hd : d < w.heap.size) (p : Pl) (pa da : Value) (h1 : Ints wr l pa p.path) (h2 : Ints wr l da p.done) (h3 : p.c ≠ 0 → pa = .slice none 0 0 ∧ da = .slice none 0 0) :
    DoS lab w d o v ((((((wr).setCell ⟨d, 10, none⟩ (.int .u8 p.c)).setCell ⟨d, 11, none⟩ (.int .i64 (p.t))).setCell ⟨d, 12, none⟩ pa).setCell ⟨d, 13, none⟩ da).setCell ⟨d, 14, none⟩ (.int .i64 (p.x))) l { m with pa := pa, da := da } { D with pl := p } := by
  have kb := setp_kept d p pa da wr
  have k1 := KeptL.of_but (lab := l) (A := fun x => x = 1) kb h.a.ld
  have a := h.a
  refine ⟨⟨?_, a.ld, ?_, a.g.keptL k1 (fun x hx => by omega), h1.keptL k1 (fun x hx => by omega), h2.keptL k1 (fun x hx => by omega), h3⟩, h.bx.kept kb (by omega), h.lx, bq_map h.bq (fun a0 a1 hy => (hy.kept kb (by omega))), h.lq, h.iv.keptL k1 (fun x hx => by omega), h.g, h.k.but kb h.a.ld h.g⟩
  · refine (((((a.b.set 10 _ (by omega)).set 11 _ (by omega)).set 12 _ (by omega)).set 13 _ (by omega)).set 14 _ (by omega)).congr (fun i hi => ?_)
    rcases (by omega : i = 0 ∨ i = 1 ∨ i = 2 ∨ i = 3 ∨ i = 4 ∨ i = 5 ∨ i = 6 ∨ i = 7 ∨ i = 8 ∨ i = 9 ∨ i = 10 ∨ i = 11 ∨ i = 12 ∨ i = 13 ∨ i = 14) with rfl | rfl | rfl | rfl | rfl | rfl | rfl | rfl | rfl | rfl | rfl | rfl | rfl | rfl | rfl <;> rfl
  · have := a.wd.keptL k1 (fun x hx => hx)
    cases hW : D.W with
    | none => rw [hW] at this; exact this
    | some X => rw [hW] at this; exact this
/-- What 'Plan' does to the desk's world. -/
theorem wd_plan {w w2 : World} {l l2 : Nat → Nat} {m : DM} {fb n2 : Nat} {M M2 : TM} {N N2 : PM} {X : Wd} {T2 : TS} {S2 : PS} (f1 : m.fv = .pointer (some ⟨fb, 0, none⟩)) (f2 : m.tv = .pointer (some ⟨M.t, 0, none⟩)) (f3 : m.pv = .pointer (some ⟨N.p, 0, none⟩)) (hF : FAt w l fb X.F) (hT2 : TAt w2 l2 M2 T2) (hM : M2.t = M.t) (hP : PAt w2 l2 N2 fb M.t S2 n2) (hN : N2.p = N.p) (hl : ∀ k, k < w.heap.size → l2 k = l k) (hk : KeptL l plnL w w2) : WdAt w2 l2 m (some ⟨X.F, T2, S2⟩) := by
  have hk' := hk.lab hl
  have hz : ∀ b, b < w.heap.size → (l b = 0 ∨ 10 ≤ l b) → (l2 b = 0 ∨ 10 ≤ l2 b) := fun b hb hx => by rw [hl b hb]; exact hx
  refine ⟨fb, M2, N2, n2, f1, by rw [hM]; exact f2, by rw [hN]; exact f3, (hF.relab hz).keptL hk' (fun x hx => by unfold plnL at hx; omega), hT2, ?_⟩
  rw [hM]
  exact hP
/-- The answer to a request. -/
def plAns (p : Pl) : Nat × List Int := if p.c ≠ 0 then (p.c, []) else (0, [p.t + p.path.length - 1])
theorem do_odd (d : Nat) (m : DM) (D : Dk) (o : Opr) (v : Value) (lab : Nat → Nat) (w : World) (h : DkAt w lab d m D) (hv : Ints w lab v o.l) (hO : OpI o) (hK : o.K = 5 ∨ o.K = 6) (X : Wd) (hW : D.W = some X) (hodd : o.l.length % 2 = 1) :
    Calls Try.prog 12 #[.pointer (some ⟨d, 0, none⟩), .agg #[.int .i64 ((o).K), .int .i64 ((o).A), .int .i64 ((o).B), .int .i64 ((o).C), .int .i64 ((o).D), .int .i64 ((o).E), v]] w (doPost lab d (D.no, 2, []) w) := by
  obtain ⟨vo, vc, hvv, -⟩ := hv.ex
  have HV := hid hv
  have HD := hid h
  have hdl := h.b.lt
  have e3 : w.cell? ⟨d, 3, none⟩ = some (.bool D.ask) := h.b.is 3 (by omega)
  have y3 := h.b.fz 3 (by omega)
  have hol := hO.l
  clear hO
  have hw0 := h.wd
  rw [hW] at hw0
  obtain ⟨fb0, _, _, _, f0, -⟩ := hw0
  have e0 : w.cell? ⟨d, 0, none⟩ = some (.pointer (some ⟨fb0, 0, none⟩)) := by
    rw [h.b.is 0 (by omega)]
    show some m.fv = _
    rw [f0]
  have d0 : (o.K == 0) = false := by simp; omega
  have d1 : (o.K == 1) = false := by simp; omega
  have d2 : (o.K == 2) = false := by simp; omega
  have d3 : (o.K == 3) = false := by simp; omega
  have d4 : (o.K == 4) = false := by simp; omega
  obtain ⟨K, A, B, C, Dd, E, l⟩ := o
  simp only at *
  have RQ := hid (fun (lb : Nat → Nat) (w' : World) (hI : Ints w' lb v l) => request_any ⟨K, A, B, C, Dd, E, l⟩ v lb w' hI hol)
  subst hvv
  simp only at *
  obtain ⟨ln, hln⟩ : ∃ y, l.length = y := ⟨_, rfl⟩
  rw [hln] at HV RQ hodd hol ⊢
  have HLN := hid hln
  clear h hv f0 hln
  rcases hK with hK | hK
  · subst hK
    go_enter Try.func12, Try.ntmps12
    go_wp2_with (first | (go_at_call 33; refine hold ?_))
    unfold Hid
    refine calls_nm fun w1 hw1 => ?_
    obtain ⟨l1, hS1⟩ := do_start (o := ⟨5, A, B, C, Dd, E, l⟩) HD.out HV.out (.int .u8 0) (.slice none 0 0) ⟨rfl, rfl⟩ w1 hw1
    clear hw1 e0
    refine (RQ.out l1 w1 hS1.iv).mono ?_
    rintro e w2 ⟨hb2, hr2⟩
    rw [if_pos (by simp only; rw [HLN.out]; exact hodd)] at hr2
    subst hr2
    have S2 := hS1.below hb2
    obtain ⟨a0, a1, q3⟩ := S2.bq
    have k0 : w2.cell? ⟨w.heap.size + 1, 0, none⟩ = some a0 := q3.is 0 (by omega)
    have k1 : w2.cell? ⟨w.heap.size + 1, 1, none⟩ = some a1 := q3.is 1 (by omega)
    have kz0 := q3.fz 0 (by omega)
    have kz1 := q3.fz 1 (by omega)
    have kl := q3.lt
    have HS2 := hid S2
    clear q3 S2 hS1 hb2 RQ
    go_wp2
    refine bodyPost_ret (v := .agg #[.int .u8 2, .slice none 0 0]) (by simp [results, Try.results12, go_sem, ↓IntWalk.iteOmega, k0, k1]) rfl ?_
    exact (do_fin HS2.out hdl 2 _ [] (Ints.nil _ _)).below ((Below.rf _).al _)
  · subst hK
    go_enter Try.func12, Try.ntmps12
    go_wp2_with (first | (go_at_call 33; refine hold ?_))
    unfold Hid
    refine calls_nm fun w1 hw1 => ?_
    obtain ⟨l1, hS1⟩ := do_start (o := ⟨6, A, B, C, Dd, E, l⟩) HD.out HV.out (.int .u8 0) (.slice none 0 0) ⟨rfl, rfl⟩ w1 hw1
    clear hw1 e0
    refine (RQ.out l1 w1 hS1.iv).mono ?_
    rintro e w2 ⟨hb2, hr2⟩
    rw [if_pos (by simp only; rw [HLN.out]; exact hodd)] at hr2
    subst hr2
    have S2 := hS1.below hb2
    obtain ⟨a0, a1, q3⟩ := S2.bq
    have k0 : w2.cell? ⟨w.heap.size + 1, 0, none⟩ = some a0 := q3.is 0 (by omega)
    have k1 : w2.cell? ⟨w.heap.size + 1, 1, none⟩ = some a1 := q3.is 1 (by omega)
    have kz0 := q3.fz 0 (by omega)
    have kz1 := q3.fz 1 (by omega)
    have kl := q3.lt
    have HS2 := hid S2
    clear q3 S2 hS1 hb2 RQ
    go_wp2
    refine bodyPost_ret (v := .agg #[.int .u8 2, .slice none 0 0]) (by simp [results, Try.results12, go_sem, ↓IntWalk.iteOmega, k0, k1]) rfl ?_
    exact (do_fin HS2.out hdl 2 _ [] (Ints.nil _ _)).below ((Below.rf _).al _)
/-- What every answer meets. -/
structure PlOk (F : FS) (T : TS) (q : Rq) (p : Pl) : Prop where
  c : p.c < 8
  t : p.t = q.t
  x : 0 ≤ p.x ∧ p.x ≤ max q.m 0 ∧ p.x ≤ 1048576
  ln : p.path.length ≤ 256
  c0 : p.c = 0 → rcode F T q = 0 ∧ 1 ≤ p.path.length
  no : p.c ≠ 0 → p.path = [] ∧ p.done = []
theorem search_pl {F : FS} {T : TS} {q : Rq} {S : PS} (hF : FOk F) (hms : S.ms ≤ 4000000) : PlOk F T q (PS.search F T q S).2 := by
  have h := search_ok (T := T) (q := q) hF hms
  have hx := search_x (T := T) (q := q) hF hms
  exact ⟨h.c, h.t, ⟨h.x.1, h.x.2, hx.2⟩, h.ln, fun hc => ⟨search_c0 hc, (h.ok hc).1⟩, h.no⟩
theorem plan_pl {F : FS} {T : TS} {q : Rq} {S : PS} (hF : FOk F) (hms : S.ms ≤ 4000000) : PlOk F T q (PS.plan F T q S).2.2 := by
  have h := search_pl (T := T) (q := q) hF hms
  by_cases hc : (PS.search F T q S).2.c = 0
  · have he := enter_c T q.r q.t (PS.search F T q S).2.path
    rw [show (PS.plan F T q S).2.2 = entP q (PS.search F T q S).2 (T.enter q.r q.t (PS.search F T q S).2.path).1 by unfold PS.plan; rw [if_pos hc]]
    generalize (T.enter q.r q.t (PS.search F T q S).2.path).1 = ec at *
    unfold entP
    by_cases hx : ec ≠ 0
    · rw [if_pos hx]
      exact ⟨he, rfl, h.x, by simp [Pl.fail], fun h => absurd h hx, fun _ => ⟨rfl, rfl⟩⟩
    · rw [if_neg hx]
      exact h
  · rw [show (PS.plan F T q S).2.2 = (PS.search F T q S).2 by unfold PS.plan; rw [if_neg hc]]
    exact h
theorem plan_ms {F : FS} {T : TS} {q : Rq} {S : PS} (hF : FOk F) (hms : S.ms ≤ 4000000) : (PS.plan F T q S).1.ms ≤ 4000000 ∧ (PS.plan F T q S).1.st = noteSt S.st (PS.plan F T q S).2.2.c (PS.plan F T q S).2.2.x (PS.plan F T q S).2.2.path.length := by
  have h := search_ok (T := T) (q := q) hF hms
  unfold PS.plan
  split
  · refine ⟨h.ms, ?_⟩
    simp only [PS.note, h.st]
  · refine ⟨h.ms, ?_⟩
    simp only [PS.note, h.st]
theorem plan_fx {F : FS} {T : TS} {q : Rq} {S : PS} : TFx T (PS.plan F T q S).2.1 := by
  by_cases hc : (PS.search F T q S).2.c = 0
  · rw [show (PS.plan F T q S).2.1 = (T.enter q.r q.t (PS.search F T q S).2.path).2 by unfold PS.plan; rw [if_pos hc]]
    exact enter_fx T q.r q.t (PS.search F T q S).2.path
  · rw [show (PS.plan F T q S).2.1 = T by unfold PS.plan; rw [if_neg hc]]
    exact TFx.rf T
end Go.Proofs.Qxb6500716a
