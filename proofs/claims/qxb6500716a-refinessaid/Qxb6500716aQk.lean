/-
  Plan: the walk.
-/
import Derived.Test.Qxb6500716aQj
namespace Go.Proofs.Qxb6500716a
open Go.RowKit Go.Maps
set_option linter.unusedSimpArgs false
set_option linter.unusedVariables false
set_option maxRecDepth 20000
set_option maxHeartbeats 4000000
theorem search_c0 {F : FS} {T : TS} {q : Rq} {S : PS} (h : (PS.search F T q S).2.c = 0) : rcode F T q = 0 := by
  rcases rcode_is F T q with h1 | h1
  · exact h1
  · unfold PS.search at h
    rw [if_pos (by omega), h1] at h
    simp [Pl.fail] at h
theorem enter_c (T : TS) (r t : Int) (path : List Int) : (T.enter r t path).1 < 8 := by
  unfold TS.enter
  split
  · simp
  · split
    · simp
    · split <;> simp
/-- The state behind 'enter'. -/
structure PnS (lab : Nat → Nat) (w : World) (M : TM) (T' : TS) (p0 : Nat) (N : PM) (S2 : PS) (n4 fb : Nat) (q : Rq) (gv : Value) (b5 : Nat) (f5 : Nat → Value) (pv dv : Value) (path done : List Int) (w6 : World) (l6 : Nat → Nat) (M6 : TM) : Prop where
  t : TAt w6 l6 M6 T'
  mt : M6.t = M.t
  p : PAt w6 l6 N fb M.t S2 n4
  pp : N.p = p0
  bq : Blk w6 (w.heap.size + 1) 5 (c5f (.int .u8 0) (.int .i64 (0)) (.slice none 0 0) (.slice none 0 0) (.int .i64 (0)))
  lq : l6 (w.heap.size + 1) = 1
  bx : Blk w6 w.heap.size 6 (qcell q gv)
  d : Blk w6 b5 5 f5
  ld : l6 b5 = 1
  i1 : Ints w6 l6 pv path
  i2 : Ints w6 l6 dv done
  g : ∀ k, k < w.heap.size → l6 k = lab k
  k : KeptL lab plnL w w6
section
variable {lab : Nat → Nat} {w : World} {M : TM} {T T' : TS} {p0 : Nat} {N : PM} {S2 : PS} {n4 fb : Nat} {q : Rq} {gv : Value} {b5 : Nat} {f5 : Nat → Value} {pv dv : Value} {path done : List Int} {w5 w6 : World} {l5 l6 : Nat → Nat} {M5 M6 : TM}
theorem PnS.below (h : PnS lab w M T p0 N S2 n4 fb q gv b5 f5 pv dv path done w5 l5 M5) (hb : Below w5.heap.size w5 w6) : PnS lab w M T p0 N S2 n4 fb q gv b5 f5 pv dv path done w6 l5 M5 :=
  ⟨h.t.below hb, h.mt, h.p.below hb, h.pp, h.bq.below hb, h.lq, h.bx.below hb, h.d.below hb, h.ld, h.i1.keptL (A := fun _ => False) (KeptL.of_below hb) (fun _ h => h.elim), h.i2.keptL (A := fun _ => False) (KeptL.of_below hb) (fun _ h => h.elim), h.g, h.k.trans' (KeptL.of_below (lab := l5) hb) h.g⟩
theorem PnS.enter (h : PnS lab w M T p0 N S2 n4 fb q gv b5 f5 pv dv path done w5 l5 M5) (hx : l5 w.heap.size = 0) (ht : TAt w6 l6 M6 T') (hM : M6.t = M5.t) (hl : ∀ k, k < w5.heap.size → l6 k = l5 k) (hk : KeptL l5 tabL w5 w6) : PnS lab w M T' p0 N S2 n4 fb q gv b5 f5 pv dv path done w6 l6 M6 := by
  have hk' := hk.lab hl
  have hz : ∀ b, b < w5.heap.size → (l5 b = 0 ∨ 10 ≤ l5 b) → (l6 b = 0 ∨ 10 ≤ l6 b) := fun b hb hx => by rw [hl b hb]; exact hx
  refine ⟨ht, hM.trans h.mt, (h.p.relab hl).keptL hk' (fun x hx => by unfold tabL at hx; omega), h.pp, h.bq.keptL hk (by rw [h.lq]; unfold tabL; omega), (hl _ h.bq.lt).trans h.lq, h.bx.keptL hk (by rw [hx]; unfold tabL; omega), h.d.keptL hk (by rw [h.ld]; unfold tabL; omega), (hl _ h.d.lt).trans h.ld, (h.i1.relab hz).keptL hk' (fun x hx => by unfold tabL at hx; omega), (h.i2.relab hz).keptL hk' (fun x hx => by unfold tabL at hx; omega), fun k hk2 => (hl k (Nat.lt_of_lt_of_le hk2 h.k.size)).trans (h.g k hk2), h.k.trans' (hk.mono (fun x hx => by unfold tabL at hx; unfold plnL; omega)) h.g⟩
theorem PnS.fail (h : PnS lab w M T p0 N S2 n4 fb q gv b5 f5 pv dv path done w5 l5 M5) (hb : w.heap.size + 1 < b5) (v0 v1 v2 v3 v4 : Value) : PnS lab w M T p0 N S2 n4 fb q gv b5 (c5f v0 v1 v2 v3 v4) (.slice none 0 0) (.slice none 0 0) [] [] (((((w5.setCell ⟨b5, 0, none⟩ v0).setCell ⟨b5, 1, none⟩ v1).setCell ⟨b5, 2, none⟩ v2).setCell ⟨b5, 3, none⟩ v3).setCell ⟨b5, 4, none⟩ v4) l5 M5 := by
  have k1 := set5_keptL (wr := w5) h.ld v0 v1 v2 v3 v4
  have kb : KeptBut b5 w5 (((((w5.setCell ⟨b5, 0, none⟩ v0).setCell ⟨b5, 1, none⟩ v1).setCell ⟨b5, 2, none⟩ v2).setCell ⟨b5, 3, none⟩ v3).setCell ⟨b5, 4, none⟩ v4) := by
    refine KeptBut.set ?_ (Or.inl (by rfl)) _
    refine KeptBut.set ?_ (Or.inl (by rfl)) _
    refine KeptBut.set ?_ (Or.inl (by rfl)) _
    refine KeptBut.set ?_ (Or.inl (by rfl)) _
    refine KeptBut.set ?_ (Or.inl (by rfl)) _
    exact KeptBut.refl _ _
  refine ⟨h.t.keptL k1 (by omega) (by omega) (by omega), h.mt, h.p.keptL k1 (fun x hx => by omega), h.pp, h.bq.kept kb (by omega), h.lq, h.bx.kept kb (by omega), ?_, h.ld, Ints.nil _ _, Ints.nil _ _, h.g, set5_keptN h.k (by omega) _ _ _ _ _⟩
  refine (((((h.d.set 0 _ (by omega)).set 1 _ (by omega)).set 2 _ (by omega)).set 3 _ (by omega)).set 4 _ (by omega)).congr (fun i hi => ?_)
  rcases (by omega : i = 0 ∨ i = 1 ∨ i = 2 ∨ i = 3 ∨ i = 4) with rfl | rfl | rfl | rfl | rfl <;> rfl
end
set_option maxHeartbeats 40000000 in
theorem plan_any (M : TM) (T : TS) (N : PM) (S : PS) (n fb : Nat) (F : FS) (lab : Nat → Nat) (q : Rq) (gv : Value) (w : World) (hF : FAt w lab fb F) (hT : TAt w lab M T) (hP : PAt w lab N fb M.t S n) (hg : GAt w lab gv q.gl) (hI : RqI q) (hms : S.ms ≤ 4000000) (hst : ∀ i, i < 11 → -1000000000000 ≤ S.st i ∧ S.st i ≤ 1000000000000) (hh : T.held ≤ T.cap) (hnr : T.nr = F.bays.length) :
    Calls Try.prog 38 #[.pointer (some ⟨N.p, 0, none⟩), .agg #[.int .i64 ((q).r), .int .i64 ((q).s), .int .i64 ((q).t), gv, .int .i64 ((q).h), .int .i64 ((q).m)]] w (planPost lab M N fb (PS.plan F T q S) w) := by
  have hud : ∀ j, j < w.heap.size → (fun b => if b < w.heap.size then lab b else if b = w.heap.size + 1 then 1 else 0) j = lab j := fun j hj => if_pos hj
  have hu0 : (fun b => if b < w.heap.size then lab b else if b = w.heap.size + 1 then 1 else 0) w.heap.size = 0 := by simp
  have hu1 : (fun b => if b < w.heap.size then lab b else if b = w.heap.size + 1 then 1 else 0) (w.heap.size + 1) = 1 := by show (if _ then _ else _) = 1; rw [if_neg (by omega), if_pos rfl]
  obtain ⟨lb1, hlb1⟩ : ∃ y, (fun b => if b < w.heap.size then lab b else if b = w.heap.size + 1 then 1 else 0) = y := ⟨_, rfl⟩
  rw [hlb1] at hud hu0 hu1
  have hz1 : ∀ b, b < w.heap.size → (lab b = 0 ∨ 10 ≤ lab b) → (lb1 b = 0 ∨ 10 ≤ lb1 b) := fun b hb hx => by rw [hud b hb]; exact hx
  have SE := hid (fun (w' : World) (h : Below w.heap.size w w') => search_any M T N S n fb F lb1 q gv w' ((hF.relab hz1).below h) ((hT.relab hud).below h) ((hP.relab hud).below h) ((hg.relab hz1).below h) hI hms)
  have HOK := hid (search_ok (T := T) (q := q) hF.ok hms)
  have HSX := hid (search_x (T := T) (q := q) hF.ok hms)
  have HC0 := hid (fun h => rok_of hF.ok (search_c0 (F := F) (T := T) (q := q) (S := S) h))
  unfold PS.plan
  obtain ⟨X, hX⟩ : ∃ y, PS.search F T q S = y := ⟨_, rfl⟩
  rw [hX] at HOK HSX HC0 ⊢
  have SE2 : Hid (∀ (w' : World), Below w.heap.size w w' → Calls Try.prog 65 #[.pointer (some ⟨N.p, 0, none⟩), .agg #[.int .i64 ((q).r), .int .i64 ((q).s), .int .i64 ((q).t), gv, .int .i64 ((q).h), .int .i64 ((q).m)]] w' fun e w'' => ∃ (lab' : Nat → Nat) (N' : PM) (n' : Nat) (v : Value), e = .returned v ∧ PAt w'' lab' N' fb M.t X.1 n' ∧ N'.p = N.p ∧ (∀ k, k < w'.heap.size → lab' k = lb1 k) ∧ KeptL lb1 seaL w' w'' ∧ PlV w'' lab' v X.2) := fun w' h => by
    have := SE.out w' h
    unfold searchPost at this
    rw [hX] at this
    exact this
  obtain ⟨go, gc, hgv, -⟩ := hg.ex
  subst hgv
  have FA := hid (fun (c x : Int) (w' : World) => failure_any q (.slice go q.gl.length gc) c x w')
  generalize q.gl.length = k at *
  have HU := hid (And.intro hud (And.intro hu0 hu1))
  have HST := hid hst
  have HT1 := hid (hT.relab hud)
  have HH := hid hh
  have HNR := hid hnr
  clear hF hT hP hg hI hms hst hX SE hud hu0 hu1 hlb1 hz1 hh hnr
  obtain ⟨S2, ⟨c, t, path, done, x⟩⟩ := X
  simp only at *
  have hqt : t = q.t := HOK.out.t
  subst hqt
  generalize hres : (if c = 0 then (S2.note (entP q ⟨c, q.t, path, done, x⟩ (T.enter q.r q.t path).1), (T.enter q.r q.t path).2, entP q ⟨c, q.t, path, done, x⟩ (T.enter q.r q.t path).1) else (S2.note ⟨c, q.t, path, done, x⟩, T, ⟨c, q.t, path, done, x⟩)) = res
  have HRES := hid hres
  clear hres
  go_enter Try.func38, Try.ntmps38
  go_wp2_with (first | (go_at_call 65; refine calls_nm fun w3 hw3 => ?_; refine hold ?_))
  unfold Hid
  have B3 : Below w.heap.size w w3 := by rw [hw3]; (repeat (first | with_reducible exact Below.rf _ | with_reducible exact World.below_ext _ _ | with_reducible refine Below.ex ?_ _ | with_reducible refine Below.al ?_ _ | with_reducible refine Below.setCell ?_ (by simp) _ | with_reducible refine Below.drew ?_))
  have X3 : Blk w3 w.heap.size 6 (qcell q (.slice go k gc)) := by
    rw [hw3]
    refine ⟨by (simp <;> omega), fun i hi => ?_, fun i hi => by simp [go_sem, ↓IntWalk.iteOmega]⟩
    rcases (by omega : i = 0 ∨ i = 1 ∨ i = 2 ∨ i = 3 ∨ i = 4 ∨ i = 5) with rfl | rfl | rfl | rfl | rfl | rfl <;> simp [go_sem, ↓IntWalk.iteOmega, qcell]
  have Q3 : Blk w3 (w.heap.size + 1) 5 (c5f (.int .u8 0) (.int .i64 (0)) (.slice none 0 0) (.slice none 0 0) (.int .i64 (0))) := by
    rw [hw3]
    refine ⟨by (simp <;> omega), fun i hi => ?_, fun i hi => by simp [go_sem, ↓IntWalk.iteOmega]⟩
    rcases (by omega : i = 0 ∨ i = 1 ∨ i = 2 ∨ i = 3 ∨ i = 4) with rfl | rfl | rfl | rfl | rfl <;> simp [go_sem, ↓IntWalk.iteOmega, c5f]
  clear hw3
  refine (SE2.out _ B3).mono ?_
  rintro e w4 ⟨l4, N4, n4, v, rfl, hP4, hN4, hl4, hk4, hV4⟩
  obtain ⟨hud, hu0, hu1⟩ := HU.out
  have hs3 := B3.size
  have hs4 := hk4.size
  have Q4 := Q3.keptL hk4 (by rw [hu1]; unfold seaL; omega)
  have X4 := X3.keptL hk4 (by rw [hu0]; unfold seaL; omega)
  have lq4 : l4 (w.heap.size + 1) = 1 := (hl4 _ Q3.lt).trans hu1
  have lx4 : l4 w.heap.size = 0 := (hl4 _ X3.lt).trans hu0
  have g4 : ∀ j, j < w.heap.size → l4 j = lab j := fun j hj => (hl4 j (by omega)).trans (hud j hj)
  have k4 : KeptL lab seaL w w4 := (KeptL.of_below B3).trans' hk4 hud
  have T4 : TAt w4 l4 M T := ((HT1.out.below B3).relab hl4).keptL (hk4.lab hl4) (by unfold seaL; omega) (by unfold seaL; omega) (by unfold seaL; omega)
  obtain ⟨pv, dv, hv, hi1, hi2, hnil⟩ := hV4
  obtain ⟨po, pc, hpv, -⟩ := hi1.ex
  obtain ⟨dq, dc, hdv, -⟩ := hi2.ex
  subst hv hpv hdv
  simp only at *
  obtain ⟨pn, hpn⟩ : ∃ y, path.length = y := ⟨_, rfl⟩
  obtain ⟨dn, hdn⟩ : ∃ y, done.length = y := ⟨_, rfl⟩
  rw [hpn] at hi1 hnil ⊢
  rw [hdn] at hi2 hnil ⊢
  have HPN := hid hpn
  have HDN := hid hdn
  have hud5 : ∀ j, j < w4.heap.size → upd l4 w4.heap.size 1 j = l4 j := fun j hj => upd_ne _ _ (by omega)
  have hz5 : ∀ b, b < w4.heap.size → (l4 b = 0 ∨ 10 ≤ l4 b) → (upd l4 w4.heap.size 1 b = 0 ∨ 10 ≤ upd l4 w4.heap.size 1 b) := fun b hb hx => by rw [hud5 b hb]; exact hx
  have SS4 : Hid (PnS lab w M T N.p N4 S2 n4 fb q (.slice go k gc) w4.heap.size (c5f (.int .u8 c) (.int .i64 (q.t)) (.slice po pn pc) (.slice dq dn dc) (.int .i64 (x))) (.slice po pn pc) (.slice dq dn dc) path done (w4.alloc (Obj.cells #[.int .u8 c, .int .i64 (q.t), .slice po pn pc, .slice dq dn dc, .int .i64 (x)] 34)) (upd l4 w4.heap.size 1) M) := by
    have ba : Below w4.heap.size w4 (w4.alloc (Obj.cells #[.int .u8 c, .int .i64 (q.t), .slice po pn pc, .slice dq dn dc, .int .i64 (x)] 34)) := (Below.rf _).al _
    refine ⟨(T4.relab hud5).below ba, rfl, (hP4.relab hud5).below ba, hN4, Q4.below ba, (hud5 _ Q4.lt).trans lq4, X4.below ba, ?_, upd_at _ _ _, (hi1.relab hz5).keptL (A := fun _ => False) (KeptL.of_below ba) (fun _ h => h.elim), (hi2.relab hz5).keptL (A := fun _ => False) (KeptL.of_below ba) (fun _ h => h.elim), fun j hj => (hud5 j (by omega)).trans (g4 j hj), (k4.mono (fun x hx => by unfold seaL at hx; unfold plnL; omega)).al _⟩
    refine ⟨by simp, fun i hi => ?_, fun i hi => by simp [go_sem, ↓IntWalk.iteOmega]⟩
    rcases (by omega : i = 0 ∨ i = 1 ∨ i = 2 ∨ i = 3 ∨ i = 4) with rfl | rfl | rfl | rfl | rfl <;> simp [go_sem, ↓IntWalk.iteOmega, c5f]
  have lx5 : Hid (upd l4 w4.heap.size 1 w.heap.size = 0) := (hud5 _ X4.lt).trans lx4
  have hb5 : w.heap.size + 1 < w4.heap.size := Q4.lt
  have HNIL := hid hnil
  obtain ⟨l5, hl5⟩ : ∃ y, upd l4 w4.heap.size 1 = y := ⟨_, rfl⟩
  rw [hl5] at SS4 lx5
  clear hP4 hN4 hl4 hk4 Q4 X4 lq4 lx4 g4 k4 T4 hi1 hi2 hpn hdn hud5 hz5 hl5 hud hu0 hu1 HU B3 X3 Q3 hs3 hs4 SE2 HT1 hnil
  have hcc : c < 8 := HOK.out.c
  by_cases hc : c = 0
  · subst hc
    have hO := HC0.out rfl
    have hrk : T.rOk q.r = true := by
      have := hO.r
      unfold TS.rOk
      rw [HNR.out]
      simp
      omega
    have hpl := HOK.out.ln
    have hpl1 := (HOK.out.ok rfl).1
    simp only at hpl hpl1
    have EN : Hid (∀ w' : World, Below (w4.alloc (Obj.cells #[.int .u8 0, .int .i64 (q.t), .slice po pn pc, .slice dq dn dc, .int .i64 (x)] 34)).heap.size (w4.alloc (Obj.cells #[.int .u8 0, .int .i64 (q.t), .slice po pn pc, .slice dq dn dc, .int .i64 (x)] 34)) w' → Calls Try.prog 67 #[.pointer (some ⟨N.p, 0, none⟩), .int .i64 (q.r), .agg #[.int .u8 (0), .int .i64 (q.t), .slice po pn pc, .slice dq dn dc, .int .i64 (x)]] w' (entPost l5 M (T.enter q.r q.t path) w')) := fun w' h => by
      have h5 := SS4.out.below h
      rw [← SS4.out.pp]
      exact enter_any M T N4 S2 n4 fb l5 q.r q.t x (.slice po pn pc) dq dn dc path w' h5.t h5.p HH.out hrk hO.t h5.i1 ⟨hpl1, by omega⟩
    have HEC := hid (enter_c T q.r q.t path)
    obtain ⟨Y, hY⟩ : ∃ y, T.enter q.r q.t path = y := ⟨_, rfl⟩
    rw [hY] at EN HEC
    have HR0 : Hid (res = (S2.note (entP q ⟨0, q.t, path, done, x⟩ Y.1), Y.2, entP q ⟨0, q.t, path, done, x⟩ Y.1)) := by
      unfold Hid
      rw [← HRES.out, if_pos rfl, hY]
    obtain ⟨yc, T'⟩ := Y
    simp only at HEC HR0
    have hpn3 : pn ≤ 256 := by rw [← HPN.out]; exact hpl
    clear hY hO hrk hpl hpl1 HRES HC0 HNIL
    have x0 : (w4.alloc (Obj.cells #[.int .u8 0, .int .i64 (q.t), .slice po pn pc, .slice dq dn dc, .int .i64 (x)] 34)).cell? ⟨w.heap.size, 0, none⟩ = some (.int .i64 (q.r)) := SS4.out.bx.is 0 (by omega)
    have x0' : w4.cell? ⟨w.heap.size, 0, none⟩ = some (.int .i64 (q.r)) := by
      have h := x0
      simp [go_sem, ↓IntWalk.iteOmega] at h
      exact h
    clear x0
    go_wp2_with (first | (go_at_call 67; refine hold ?_))
    unfold Hid
    obtain ⟨w5, hw5⟩ : ∃ y, w4.alloc (Obj.cells #[.int .u8 0, .int .i64 (q.t), .slice po pn pc, .slice dq dn dc, .int .i64 (x)] 34) = y := ⟨_, rfl⟩
    have SS5 : Hid (PnS lab w M T N.p N4 S2 n4 fb q (.slice go k gc) w4.heap.size (c5f (.int .u8 0) (.int .i64 (q.t)) (.slice po pn pc) (.slice dq dn dc) (.int .i64 (x))) (.slice po pn pc) (.slice dq dn dc) path done w5 l5 M) := by
      rw [← hw5]; exact SS4.out
    rw [hw5] at EN ⊢
    obtain ⟨b5, hb5e⟩ : ∃ y, w4.heap.size = y := ⟨_, rfl⟩
    rw [hb5e] at SS5 hb5 ⊢
    clear hb5e SS4 x0' hw5
    refine (EN.out _ (Below.rf _)).mono ?_
    rintro e w6 ⟨l6, M6, rfl, hT6, hM6, hl6, hk6⟩
    have SS6 := hid (SS5.out.enter lx5.out hT6 hM6 hl6 hk6)
    clear SS5 lx5 hT6 hM6 hl6 hk6 EN
    have d0 : (w6).cell? ⟨b5, 0, none⟩ = some (.int .u8 0) := (SS6.out.d).is 0 (by omega)
    have d1 : (w6).cell? ⟨b5, 1, none⟩ = some (.int .i64 (q.t)) := (SS6.out.d).is 1 (by omega)
    have d2 : (w6).cell? ⟨b5, 2, none⟩ = some (.slice po pn pc) := (SS6.out.d).is 2 (by omega)
    have d3 : (w6).cell? ⟨b5, 3, none⟩ = some (.slice dq dn dc) := (SS6.out.d).is 3 (by omega)
    have d4 : (w6).cell? ⟨b5, 4, none⟩ = some (.int .i64 (x)) := (SS6.out.d).is 4 (by omega)
    have hdl := (SS6.out.d).lt
    by_cases hyc : yc = 0
    · subst hyc
      have HR : Hid (res = (S2.note ⟨0, q.t, path, done, x⟩, T', ⟨0, q.t, path, done, x⟩)) := by
        unfold Hid
        rw [HR0.out]
        unfold entP
        rw [if_neg (by simp)]
      have NT : Hid (Calls Try.prog 64 #[.pointer (some ⟨N.p, 0, none⟩), .agg #[.int .u8 (0), .int .i64 (q.t), .slice po pn pc, .slice dq dn dc, .int .i64 (x)]] w6 fun e w'' => e = .returned (.agg #[.int .u8 (0), .int .i64 (q.t), .slice po pn pc, .slice dq dn dc, .int .i64 (x)]) ∧ PAt w'' l6 N4 fb M.t (S2.note ⟨0, q.t, path, done, x⟩) n4 ∧ KeptL l6 (fun y => y = 5) w6 w'') := by
        unfold Hid
        rw [← SS6.out.pp]
        have := note_any N4 S2 n4 fb M.t l6 0 q.t x po pn pc dq dn dc w6 SS6.out.p (by omega) (by have := HOK.out.st; simp only at this; rw [this]; exact HST.out) ⟨by have := HSX.out; omega, by have := HSX.out; omega⟩ (by omega)
        unfold PS.note
        rw [HPN.out]
        exact this
      go_wp2_with (first | (go_at_call 64; refine hold ?_))
      unfold Hid
      have SS := SS6
      clear SS6 d0 d1 d2 d3 d4 hdl
      refine (NT.out).mono ?_
      rintro e w9 ⟨rfl, hP9, hk9⟩
      have Q9 := SS.out.bq.keptL hk9 (by rw [SS.out.lq]; omega)
      have H9 := hid (And.intro hP9 hk9)
      have r0 : (w9).cell? ⟨w.heap.size + 1, 0, none⟩ = some (.int .u8 0) := (Q9).is 0 (by omega)
      have r1 : (w9).cell? ⟨w.heap.size + 1, 1, none⟩ = some (.int .i64 (0)) := (Q9).is 1 (by omega)
      have r2 : (w9).cell? ⟨w.heap.size + 1, 2, none⟩ = some (.slice none 0 0) := (Q9).is 2 (by omega)
      have r3 : (w9).cell? ⟨w.heap.size + 1, 3, none⟩ = some (.slice none 0 0) := (Q9).is 3 (by omega)
      have r4 : (w9).cell? ⟨w.heap.size + 1, 4, none⟩ = some (.int .i64 (0)) := (Q9).is 4 (by omega)
      have z0 := (Q9).fz 0 (by omega)
      have z1 := (Q9).fz 1 (by omega)
      have z2 := (Q9).fz 2 (by omega)
      have z3 := (Q9).fz 3 (by omega)
      have z4 := (Q9).fz 4 (by omega)
      have hql := (Q9).lt
      clear Q9 hP9 hk9 NT
      go_wp2
      refine bodyPost_ret (v := .agg #[.int .u8 (0), .int .i64 (q.t), .slice po pn pc, .slice dq dn dc, .int .i64 (x)]) (by simp [results, Try.results38, go_sem, ↓IntWalk.iteOmega, r0, r1, r2, r3, r4]) rfl ?_
      obtain ⟨hP9, hk9⟩ := H9.out
      have f3 := set5_keptL (wr := w9) SS.out.lq (.int .u8 (0)) (.int .i64 (q.t)) (.slice po pn pc) (.slice dq dn dc) (.int .i64 (x))
      have k5 := SS.out.k.trans' (hk9.mono (B := plnL) (fun x hx => by unfold plnL; omega)) SS.out.g
      rw [HR.out]
      refine ⟨_, _, _, _, _, rfl, (SS.out.t.keptL hk9 (by omega) (by omega) (by omega)).keptL f3 (by omega) (by omega) (by omega), SS.out.mt, hP9.keptL f3 (fun x hx => by omega), SS.out.pp, SS.out.g, set5_keptN k5 (by omega) _ _ _ _ _, ?_⟩
      exact ⟨_, _, rfl, (SS.out.i1.keptL hk9 (fun x hx => by omega)).keptL f3 (fun x hx => by omega), (SS.out.i2.keptL hk9 (fun x hx => by omega)).keptL f3 (fun x hx => by omega), fun h => absurd rfl h⟩
    · have dyc : ((yc : Int) != 0) = true := by simp; omega
      have HR : Hid (res = (S2.note (Pl.fail q.t yc x), T', Pl.fail q.t yc x)) := by
        unfold Hid
        rw [HR0.out]
        unfold entP
        rw [if_pos hyc]
      have x0 : w6.cell? ⟨w.heap.size, 0, none⟩ = some (.int .i64 (q.r)) := SS6.out.bx.is 0 (by omega)
      have x1 : w6.cell? ⟨w.heap.size, 1, none⟩ = some (.int .i64 (q.s)) := SS6.out.bx.is 1 (by omega)
      have x2 : w6.cell? ⟨w.heap.size, 2, none⟩ = some (.int .i64 (q.t)) := SS6.out.bx.is 2 (by omega)
      have x3 : w6.cell? ⟨w.heap.size, 3, none⟩ = some (.slice go k gc) := SS6.out.bx.is 3 (by omega)
      have x4 : w6.cell? ⟨w.heap.size, 4, none⟩ = some (.int .i64 (q.h)) := SS6.out.bx.is 4 (by omega)
      have x5 : w6.cell? ⟨w.heap.size, 5, none⟩ = some (.int .i64 (q.m)) := SS6.out.bx.is 5 (by omega)
      have hxl := SS6.out.bx.lt
      have y0 := SS6.out.d.fz 0 (by omega)
      have y1 := SS6.out.d.fz 1 (by omega)
      have y2 := SS6.out.d.fz 2 (by omega)
      have y3 := SS6.out.d.fz 3 (by omega)
      have y4 := SS6.out.d.fz 4 (by omega)
      go_wp2_with (first | (go_at_call 68; refine (FA.out _ _ _).mono ?_; rintro e w7 ⟨rfl, z7, rfl⟩) | (go_at_call 64; refine hold ?_))
      unfold Hid
      have SS8 := (SS6.out.fail hb5 (.int .u8 yc) (.int .i64 (q.t)) (.slice none 0 0) (.slice none 0 0) (.int .i64 (x))).below (World.below_ext _ z7)
      have SS : Hid (PnS lab w M T' N.p N4 S2 n4 fb q (.slice go k gc) b5 (c5f (.int .u8 yc) (.int .i64 (q.t)) (.slice none 0 0) (.slice none 0 0) (.int .i64 (x))) (.slice none 0 0) (.slice none 0 0) [] [] _ l6 M6) := SS8
      clear SS8 SS6 d0 d1 d2 d3 d4 hdl x0 x1 x2 x3 x4 x5 hxl y0 y1 y2 y3 y4
      generalize ((((((w6.setCell ⟨b5, 0, none⟩ (.int .u8 yc)).setCell ⟨b5, 1, none⟩ (.int .i64 (q.t))).setCell ⟨b5, 2, none⟩ (.slice none 0 0)).setCell ⟨b5, 3, none⟩ (.slice none 0 0)).setCell ⟨b5, 4, none⟩ (.int .i64 (x))).ext z7) = w8 at *
      have NT : Hid (Calls Try.prog 64 #[.pointer (some ⟨N.p, 0, none⟩), .agg #[.int .u8 (yc), .int .i64 (q.t), .slice none 0 0, .slice none 0 0, .int .i64 (x)]] w8 fun e w'' => e = .returned (.agg #[.int .u8 (yc), .int .i64 (q.t), .slice none 0 0, .slice none 0 0, .int .i64 (x)]) ∧ PAt w'' l6 N4 fb M.t (S2.note (Pl.fail q.t yc x)) n4 ∧ KeptL l6 (fun y => y = 5) w8 w'') := by
        unfold Hid
        rw [← SS.out.pp]
        exact note_any N4 S2 n4 fb M.t l6 yc q.t x none 0 0 none 0 0 w8 SS.out.p HEC.out (by have := HOK.out.st; simp only at this; rw [this]; exact HST.out) ⟨by have := HSX.out; omega, by have := HSX.out; omega⟩ (by omega)
      refine (NT.out).mono ?_
      rintro e w9 ⟨rfl, hP9, hk9⟩
      have Q9 := SS.out.bq.keptL hk9 (by rw [SS.out.lq]; omega)
      have H9 := hid (And.intro hP9 hk9)
      have r0 : (w9).cell? ⟨w.heap.size + 1, 0, none⟩ = some (.int .u8 0) := (Q9).is 0 (by omega)
      have r1 : (w9).cell? ⟨w.heap.size + 1, 1, none⟩ = some (.int .i64 (0)) := (Q9).is 1 (by omega)
      have r2 : (w9).cell? ⟨w.heap.size + 1, 2, none⟩ = some (.slice none 0 0) := (Q9).is 2 (by omega)
      have r3 : (w9).cell? ⟨w.heap.size + 1, 3, none⟩ = some (.slice none 0 0) := (Q9).is 3 (by omega)
      have r4 : (w9).cell? ⟨w.heap.size + 1, 4, none⟩ = some (.int .i64 (0)) := (Q9).is 4 (by omega)
      have z0 := (Q9).fz 0 (by omega)
      have z1 := (Q9).fz 1 (by omega)
      have z2 := (Q9).fz 2 (by omega)
      have z3 := (Q9).fz 3 (by omega)
      have z4 := (Q9).fz 4 (by omega)
      have hql := (Q9).lt
      clear Q9 hP9 hk9 NT
      go_wp2
      refine bodyPost_ret (v := .agg #[.int .u8 (yc), .int .i64 (q.t), .slice none 0 0, .slice none 0 0, .int .i64 (x)]) (by simp [results, Try.results38, go_sem, ↓IntWalk.iteOmega, r0, r1, r2, r3, r4]) rfl ?_
      obtain ⟨hP9, hk9⟩ := H9.out
      have f3 := set5_keptL (wr := w9) SS.out.lq (.int .u8 (yc)) (.int .i64 (q.t)) (.slice none 0 0) (.slice none 0 0) (.int .i64 (x))
      have k5 := SS.out.k.trans' (hk9.mono (B := plnL) (fun x hx => by unfold plnL; omega)) SS.out.g
      rw [HR.out]
      refine ⟨_, _, _, _, _, rfl, (SS.out.t.keptL hk9 (by omega) (by omega) (by omega)).keptL f3 (by omega) (by omega) (by omega), SS.out.mt, hP9.keptL f3 (fun x hx => by omega), SS.out.pp, SS.out.g, set5_keptN k5 (by omega) _ _ _ _ _, ?_⟩
      exact PlV.fail _ _ _ _ _
  · have dc0 : ((c : Int) == 0) = false := by simp; omega
    have HR : Hid (res = (S2.note ⟨c, q.t, path, done, x⟩, T, ⟨c, q.t, path, done, x⟩)) := by
      unfold Hid
      rw [← HRES.out, if_neg hc]
    go_wp2_with (first | (go_at_call 64; refine calls_nm fun w5 hw5 => ?_; refine hold ?_))
    unfold Hid
    rw [← hw5] at SS4
    have SS := SS4
    clear SS4 hw5
    have NT : Hid (Calls Try.prog 64 #[.pointer (some ⟨N.p, 0, none⟩), .agg #[.int .u8 (c), .int .i64 (q.t), .slice po pn pc, .slice dq dn dc, .int .i64 (x)]] w5 fun e w'' => e = .returned (.agg #[.int .u8 (c), .int .i64 (q.t), .slice po pn pc, .slice dq dn dc, .int .i64 (x)]) ∧ PAt w'' l5 N4 fb M.t (S2.note ⟨c, q.t, path, done, x⟩) n4 ∧ KeptL l5 (fun y => y = 5) w5 w'') := by
      unfold Hid
      rw [← SS.out.pp]
      have := note_any N4 S2 n4 fb M.t l5 c q.t x po pn pc dq dn dc w5 SS.out.p HOK.out.c (by have := HOK.out.st; simp only at this; rw [this]; exact HST.out) ⟨by have := HSX.out; omega, by have := HSX.out; omega⟩ (by have := HOK.out.ln; simp only at this; rw [HPN.out] at this; omega)
      unfold PS.note
      rw [HPN.out]
      exact this
    refine (NT.out).mono ?_
    rintro e w9 ⟨rfl, hP9, hk9⟩
    have Q9 := SS.out.bq.keptL hk9 (by rw [SS.out.lq]; omega)
    have H9 := hid (And.intro hP9 hk9)
    have r0 : (w9).cell? ⟨w.heap.size + 1, 0, none⟩ = some (.int .u8 0) := (Q9).is 0 (by omega)
    have r1 : (w9).cell? ⟨w.heap.size + 1, 1, none⟩ = some (.int .i64 (0)) := (Q9).is 1 (by omega)
    have r2 : (w9).cell? ⟨w.heap.size + 1, 2, none⟩ = some (.slice none 0 0) := (Q9).is 2 (by omega)
    have r3 : (w9).cell? ⟨w.heap.size + 1, 3, none⟩ = some (.slice none 0 0) := (Q9).is 3 (by omega)
    have r4 : (w9).cell? ⟨w.heap.size + 1, 4, none⟩ = some (.int .i64 (0)) := (Q9).is 4 (by omega)
    have z0 := (Q9).fz 0 (by omega)
    have z1 := (Q9).fz 1 (by omega)
    have z2 := (Q9).fz 2 (by omega)
    have z3 := (Q9).fz 3 (by omega)
    have z4 := (Q9).fz 4 (by omega)
    have hql := (Q9).lt
    clear Q9 hP9 hk9 NT
    go_wp2
    refine bodyPost_ret (v := .agg #[.int .u8 (c), .int .i64 (q.t), .slice po pn pc, .slice dq dn dc, .int .i64 (x)]) (by simp [results, Try.results38, go_sem, ↓IntWalk.iteOmega, r0, r1, r2, r3, r4]) rfl ?_
    obtain ⟨hP9, hk9⟩ := H9.out
    have f3 := set5_keptL (wr := w9) SS.out.lq (.int .u8 (c)) (.int .i64 (q.t)) (.slice po pn pc) (.slice dq dn dc) (.int .i64 (x))
    have k5 := SS.out.k.trans' (hk9.mono (B := plnL) (fun x hx => by unfold plnL; omega)) SS.out.g
    rw [HR.out]
    refine ⟨_, _, _, _, _, rfl, (SS.out.t.keptL hk9 (by omega) (by omega) (by omega)).keptL f3 (by omega) (by omega) (by omega), SS.out.mt, hP9.keptL f3 (fun x hx => by omega), SS.out.pp, SS.out.g, set5_keptN k5 (by omega) _ _ _ _ _, ?_⟩
    exact ⟨_, _, rfl, (SS.out.i1.keptL hk9 (fun x hx => by omega)).keptL f3 (fun x hx => by omega), (SS.out.i2.keptL hk9 (fun x hx => by omega)).keptL f3 (fun x hx => by omega), HNIL.out⟩
end Go.Proofs.Qxb6500716a
