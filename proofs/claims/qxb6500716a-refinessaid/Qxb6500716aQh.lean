/-
  search: the walk.
-/
import Derived.Test.Qxb6500716aQf
import Derived.Test.Qxb6500716aQg
namespace Go.Proofs.Qxb6500716a
open Go.RowKit Go.Maps
set_option linter.unusedSimpArgs false
set_option linter.unusedVariables false
set_option maxRecDepth 20000
set_option maxHeartbeats 4000000

def seaL (x : Nat) : Prop := 5 ≤ x ∧ x ≤ 9
theorem PlV.keptL {w w' : World} {lab : Nat → Nat} {A : Nat → Prop} {v : Value} {p : Pl} (h : PlV w lab v p) (hk : KeptL lab A w w') (hA : ∀ x, A x → 0 < x ∧ x < 10) : PlV w' lab v p := by
  obtain ⟨pv, dv, h1, h2, h3, h4⟩ := h
  exact ⟨pv, dv, h1, h2.keptL hk hA, h3.keptL hk hA, h4⟩
theorem PlV.relab {w : World} {lab lab' : Nat → Nat} {v : Value} {p : Pl} (h : PlV w lab v p) (hl : ∀ b, b < w.heap.size → (lab b = 0 ∨ 10 ≤ lab b) → (lab' b = 0 ∨ 10 ≤ lab' b)) : PlV w lab' v p := by
  obtain ⟨pv, dv, h1, h2, h3, h4⟩ := h
  exact ⟨pv, dv, h1, h2.relab hl, h3.relab hl, h4⟩
theorem Ints.nil (w : World) (lab : Nat → Nat) : Ints w lab (.slice none 0 0) [] := ⟨⟨none, 0, rfl, Nat.le_refl _⟩, by simp, fun c hc => by simp at hc, fun j c hj => by simp at hj⟩
theorem PlV.fail (w : World) (lab : Nat → Nat) (t : Int) (c : Nat) (x : Int) : PlV w lab (.agg #[.int .u8 (c), .int .i64 (t), .slice none 0 0, .slice none 0 0, .int .i64 (x)]) (Pl.fail t c x) := ⟨_, _, rfl, Ints.nil _ _, Ints.nil _ _, fun _ => ⟨rfl, rfl⟩⟩
theorem pop_P {w : World} {lab : Nat → Nat} {N : PM} {fb tb : Nat} {S : PS} {n : Nat} (h : PAt w lab N fb tb S n) (hne : S.hp ≠ []) (hl : S.hp.length ≤ 1000000000) :
    Calls Try.prog 87 #[.pointer (some ⟨N.p, 2, none⟩)] w fun e w' => ∃ hv', e = .returned (.tuple #[.agg #[.int .i64 ((S.hp.getD (best S.hp) It.nil).k), .int .i64 ((S.hp.getD (best S.hp) It.nil).t), .int .i64 ((S.hp.getD (best S.hp) It.nil).v)], .bool true]) ∧ PAt w' lab ⟨N.p, hv', N.nv, N.kb, N.mb⟩ fb tb { S with hp := S.hp.eraseIdx (best S.hp) } n ∧ KeptL lab scrL w w' := by
  have h0 : 0 < S.hp.length := List.length_pos_iff.2 hne
  refine (pop_any N.p (pcell N fb tb S.st) S.hp lab w h.bp h.bh h.lp h0 hl).mono ?_
  rintro e w' ⟨hv', rfl, hb, hls, hk⟩
  refine ⟨hv', rfl, ⟨hb.congr (fun i hi => ?_), ?_, h.bn.keptL hk (by omega), h.bk.keptL hk (by omega) (by omega), h.lp⟩, hk.mono (fun x hx => by unfold scrL; omega)⟩
  · match i with
    | 0 => rfl
    | 1 => rfl
    | 2 => rfl
    | 3 => rfl
    | 4 => rfl
    | j + 5 => simp [upd, pcell]
  · rw [show ({ S with hp := S.hp.eraseIdx (best S.hp) } : PS).hp.length = S.hp.length - 1 from List.length_eraseIdx_of_lt (best_lt h0)]
    exact hls
/-- A state of the walk. -/
structure SrS (lab : Nat → Nat) (w : World) (xb qb : Nat) (M : TM) (T : TS) (rb fb : Nat) (F : FS) (q : Rq) (gv tv av : Value) (bay hz : Int) (p0 : Nat) (st : Nat → Int) (wr : World) (l5 : Nat → Nat) (N : PM) (S : PS) (n e : Nat) : Prop where
  a : Al wr l5 M T N S n rb fb F q gv tv av bay hz
  i : SIn F T q bay hz st (1 + 400 * e) S
  n : n ≤ 1 + 400 * e
  p : N.p = p0
  bq : Blk wr qb 5 (c5f (.int .u8 0) (.int .i64 (0)) (.slice none 0 0) (.slice none 0 0) (.int .i64 (0)))
  ql : l5 qb = 1
  bx : Blk wr xb 6 (qcell q gv)
  xl : l5 xb = 0
  g : ∀ k, k < w.heap.size → l5 k = lab k
  k : KeptL lab seaL w wr
section
variable {lab : Nat → Nat} {w : World} {xb qb : Nat} {M : TM} {T : TS} {rb fb : Nat} {F : FS} {q : Rq} {gv tv av : Value} {bay hz : Int} {p0 : Nat} {st : Nat → Int} {wr w' : World} {l5 l' : Nat → Nat} {N N' : PM} {S S' : PS} {n n' e e' : Nat}
theorem SrS.step (h : SrS lab w xb qb M T rb fb F q gv tv av bay hz p0 st wr l5 N S n e) (hl : ∀ k, k < wr.heap.size → l' k = l5 k) (hk : KeptL l5 scrL wr w') (hp : PAt w' l' N' fb M.t S' n') (hN : N'.p = N.p) (hi : SIn F T q bay hz st (1 + 400 * e') S') (hn : n' ≤ 1 + 400 * e') : SrS lab w xb qb M T rb fb F q gv tv av bay hz p0 st w' l' N' S' n' e' :=
  ⟨h.a.step hl hk hp hN, hi, hn, hN.trans h.p, h.bq.keptL hk (by rw [h.ql]; unfold scrL; omega), (hl _ h.bq.lt).trans h.ql, h.bx.keptL hk (by rw [h.xl]; unfold scrL; omega), (hl _ h.bx.lt).trans h.xl, fun k hk' => (hl k (Nat.lt_of_lt_of_le hk' h.k.size)).trans (h.g k hk'), h.k.trans' (hk.mono (fun x hx => by unfold scrL at hx; unfold seaL; omega)) (fun i hi => h.g i hi)⟩
theorem SrS.below (h : SrS lab w xb qb M T rb fb F q gv tv av bay hz p0 st wr l5 N S n e) (hb : Below wr.heap.size wr w') : SrS lab w xb qb M T rb fb F q gv tv av bay hz p0 st w' l5 N S n e :=
  h.step (fun _ _ => rfl) (KeptL.of_below hb) (h.a.p.below hb) rfl h.i h.n
end
def searchPost (lab : Nat → Nat) (M : TM) (T : TS) (N : PM) (fb : Nat) (F : FS) (q : Rq) (S : PS) (w : World) (e : Ending) (w' : World) : Prop :=
  ∃ (lab' : Nat → Nat) (N' : PM) (n' : Nat) (v : Value), e = .returned v ∧ PAt w' lab' N' fb M.t (PS.search F T q S).1 n' ∧ N'.p = N.p ∧ (∀ k, k < w.heap.size → lab' k = lab k) ∧ KeptL lab seaL w w' ∧ PlV w' lab' v (PS.search F T q S).2

theorem SrS.fin {lab : Nat → Nat} {w : World} {xb qb : Nat} {M : TM} {T : TS} {rb fb : Nat} {F : FS} {q : Rq} {gv tv av : Value} {bay hz : Int} {p0 : Nat} {st : Nat → Int} {wr : World} {l5 : Nat → Nat} {N : PM} {S : PS} {n e : Nat} (h : SrS lab w xb qb M T rb fb F q gv tv av bay hz p0 st wr l5 N S n e) (hq : w.heap.size ≤ qb) (v0 v1 v2 v3 v4 : Value) :
    PAt (((((wr.setCell ⟨qb, 0, none⟩ v0).setCell ⟨qb, 1, none⟩ v1).setCell ⟨qb, 2, none⟩ v2).setCell ⟨qb, 3, none⟩ v3).setCell ⟨qb, 4, none⟩ v4) l5 N fb M.t S n ∧ KeptL lab seaL w (((((wr.setCell ⟨qb, 0, none⟩ v0).setCell ⟨qb, 1, none⟩ v1).setCell ⟨qb, 2, none⟩ v2).setCell ⟨qb, 3, none⟩ v3).setCell ⟨qb, 4, none⟩ v4) ∧ KeptL l5 (fun x => x = 1) wr (((((wr.setCell ⟨qb, 0, none⟩ v0).setCell ⟨qb, 1, none⟩ v1).setCell ⟨qb, 2, none⟩ v2).setCell ⟨qb, 3, none⟩ v3).setCell ⟨qb, 4, none⟩ v4) := by
  have k1 : KeptL l5 (fun x => x = 1) wr (((((wr.setCell ⟨qb, 0, none⟩ v0).setCell ⟨qb, 1, none⟩ v1).setCell ⟨qb, 2, none⟩ v2).setCell ⟨qb, 3, none⟩ v3).setCell ⟨qb, 4, none⟩ v4) := by
    refine KeptL.set ?_ h.ql _
    refine KeptL.set ?_ h.ql _
    refine KeptL.set ?_ h.ql _
    refine KeptL.set ?_ h.ql _
    refine KeptL.set ?_ h.ql _
    exact KeptL.refl _ _ _
  refine ⟨h.a.p.keptL k1 (fun x hx => by omega), ?_, k1⟩
  refine KeptL.setN ?_ (by omega) _
  refine KeptL.setN ?_ (by omega) _
  refine KeptL.setN ?_ (by omega) _
  refine KeptL.setN ?_ (by omega) _
  refine KeptL.setN ?_ (by omega) _
  exact h.k
set_option maxHeartbeats 40000000 in
theorem search_any (M : TM) (T : TS) (N : PM) (S : PS) (n fb : Nat) (F : FS) (lab : Nat → Nat) (q : Rq) (gv : Value) (w : World) (hF : FAt w lab fb F) (hT : TAt w lab M T) (hP : PAt w lab N fb M.t S n) (hg : GAt w lab gv q.gl) (hI : RqI q) (hms : S.ms ≤ 4000000) :
    Calls Try.prog 65 #[.pointer (some ⟨N.p, 0, none⟩), .agg #[.int .i64 ((q).r), .int .i64 ((q).s), .int .i64 ((q).t), gv, .int .i64 ((q).h), .int .i64 ((q).m)]] w (searchPost lab M T N fb F q S w) := by
  have HF := hid hF
  have HT := hid hT
  have HP := hid hP
  have HG := hid hg
  have CK := hid (fun (w' : World) (h : Below w.heap.size w w') => check_any M T N S n fb F lab q gv w' (hF.below h) (hT.below h) (hP.below h) (hg.below h))
  have FA := hid (fun (c x : Int) (w' : World) => failure_any q gv c x w')
  obtain ⟨go, gc, hgv, -⟩ := hg.ex
  obtain ⟨code, hcode⟩ : ∃ y, rcode F T q = y := ⟨_, rfl⟩
  rw [hcode] at CK
  have hci := rcode_is F T q
  rw [hcode] at hci
  by_cases hc : code ≠ 0
  · have HS : Hid (PS.search F T q S = (S, Pl.fail q.t code.toNat 0)) := by
      unfold Hid PS.search
      rw [hcode, if_pos hc]
    have d1 : (code != 0) = true := by simp [hc]
    obtain rfl : code = 2 := by omega
    subst hgv
    generalize q.gl.length = k at *
    clear hF hT hP hg hc hci hcode
    go_enter Try.func65, Try.ntmps65
    go_wp2_with (first | (go_at_call 69; refine (CK.out _ (by (repeat (first | with_reducible exact Below.rf _ | with_reducible exact World.below_ext _ _ | with_reducible refine Below.ex ?_ _ | with_reducible refine Below.al ?_ _ | with_reducible refine Below.setCell ?_ (by simp) _ | with_reducible refine Below.drew ?_)))).mono ?_; rintro e w1 ⟨rfl, z, rfl⟩) | (go_at_call 68; refine (FA.out _ _ _).mono ?_; rintro e w1 ⟨rfl, z2, rfl⟩))
    refine bodyPost_ret (v := .agg #[.int .u8 (2), .int .i64 (q.t), .slice none 0 0, .slice none 0 0, .int .i64 (0)]) (by simp [results, Try.results65, go_sem, ↓IntWalk.iteOmega]) rfl ?_
    refine ⟨lab, N, n, _, rfl, ?_, rfl, fun _ _ => rfl, ?_, ?_⟩
    · rw [HS.out]
      refine HP.out.below ?_
      (repeat (first | with_reducible exact Below.rf _ | with_reducible exact World.below_ext _ _ | with_reducible refine Below.ex ?_ _ | with_reducible refine Below.al ?_ _ | with_reducible refine Below.setCell ?_ (by simp) _ | with_reducible refine Below.drew ?_))
    · refine KeptL.of_below ?_
      (repeat (first | with_reducible exact Below.rf _ | with_reducible exact World.below_ext _ _ | with_reducible refine Below.ex ?_ _ | with_reducible refine Below.al ?_ _ | with_reducible refine Below.setCell ?_ (by simp) _ | with_reducible refine Below.drew ?_))
    · rw [HS.out]
      exact PlV.fail _ _ _ _ _
  · obtain rfl : code = 0 := by omega
    have hO := rok_of hF.ok hcode
    have SF := hid (fun (w' : World) (h : Below w.heap.size w w') => startFree_any M T N S n fb lab q gv w' (hT.below h) (hP.below h) hI.r hI.s hO.t)
    have d1 : ((0 : Int) != 0) = false := rfl
    cases hsf : T.sfree q with
    | false =>
      rw [hsf] at SF
      have HS : Hid (PS.search F T q S = (S, Pl.fail q.t 3 0)) := by
        unfold Hid PS.search
        rw [hcode, if_neg (by simp), hsf, if_pos rfl]
      subst hgv
      generalize q.gl.length = k at *
      clear hF hT hP hg hc hci hcode hsf hO
      go_enter Try.func65, Try.ntmps65
      go_wp2_with (first | (go_at_call 69; refine (CK.out _ (by (repeat (first | with_reducible exact Below.rf _ | with_reducible exact World.below_ext _ _ | with_reducible refine Below.ex ?_ _ | with_reducible refine Below.al ?_ _ | with_reducible refine Below.setCell ?_ (by simp) _ | with_reducible refine Below.drew ?_)))).mono ?_; rintro e w1 ⟨rfl, z, rfl⟩) | (go_at_call 84; refine (SF.out _ (by (repeat (first | with_reducible exact Below.rf _ | with_reducible exact World.below_ext _ _ | with_reducible refine Below.ex ?_ _ | with_reducible refine Below.al ?_ _ | with_reducible refine Below.setCell ?_ (by simp) _ | with_reducible refine Below.drew ?_)))).mono ?_; rintro e w1 ⟨rfl, z3, rfl⟩) | (go_at_call 68; refine (FA.out _ _ _).mono ?_; rintro e w1 ⟨rfl, z2, rfl⟩))
      refine bodyPost_ret (v := .agg #[.int .u8 (3), .int .i64 (q.t), .slice none 0 0, .slice none 0 0, .int .i64 (0)]) (by simp [results, Try.results65, go_sem, ↓IntWalk.iteOmega]) rfl ?_
      refine ⟨lab, N, n, _, rfl, ?_, rfl, fun _ _ => rfl, ?_, ?_⟩
      · rw [HS.out]
        refine HP.out.below ?_
        (repeat (first | with_reducible exact Below.rf _ | with_reducible exact World.below_ext _ _ | with_reducible refine Below.ex ?_ _ | with_reducible refine Below.al ?_ _ | with_reducible refine Below.setCell ?_ (by simp) _ | with_reducible refine Below.drew ?_))
      · refine KeptL.of_below ?_
        (repeat (first | with_reducible exact Below.rf _ | with_reducible exact World.below_ext _ _ | with_reducible refine Below.ex ?_ _ | with_reducible refine Below.al ?_ _ | with_reducible refine Below.setCell ?_ (by simp) _ | with_reducible refine Below.drew ?_))
      · rw [HS.out]
        exact PlV.fail _ _ _ _ _
    | true =>
      rw [hsf] at SF
      obtain ⟨X, hX⟩ : ∃ y, PS.srch F T q (F.park q.r).1 (q.hz T) q.m.toNat 0 ((S.beg F T q).reach F q.gl (F.park q.r).1 (q.hz T) q.s.toNat 0 0 (-1)) = y := ⟨_, rfl⟩
      have HS : Hid (PS.search F T q S = X) := by
        unfold Hid PS.search
        rw [hcode, if_neg (by simp), hsf, if_neg (by simp), hX]
      have HX := hid hX
      have hSI := sin_beg hF.ok hcode hms (S := S)
      have hst := beg_states hF.ok hO.gok hO.hz
      have hbm := beg_ms (S := S) hst hms
      have hud : ∀ j, j < w.heap.size → (fun b => if b < w.heap.size then lab b else if b = w.heap.size + 1 then 1 else 0) j = lab j := fun j hj => if_pos hj
      have hu0 : (fun b => if b < w.heap.size then lab b else if b = w.heap.size + 1 then 1 else 0) w.heap.size = 0 := by simp
      have hu1 : (fun b => if b < w.heap.size then lab b else if b = w.heap.size + 1 then 1 else 0) (w.heap.size + 1) = 1 := by show (if _ then _ else _) = 1; rw [if_neg (by omega), if_pos rfl]
      obtain ⟨lb1, hlb1⟩ : ∃ y, (fun b => if b < w.heap.size then lab b else if b = w.heap.size + 1 then 1 else 0) = y := ⟨_, rfl⟩
      rw [hlb1] at hud hu0 hu1
      have hz1 : ∀ b, b < w.heap.size → (lab b = 0 ∨ 10 ≤ lab b) → (lb1 b = 0 ∨ 10 ≤ lb1 b) := fun b hb hx => by rw [hud b hb]; exact hx
      have BG := hid (fun (w' : World) (h : Below w.heap.size w w') => begin_any M T N S n fb F lb1 q gv w' ((hF.relab hz1).below h) ((hT.relab hud).below h) ((hP.relab hud).below h) ((hg.relab hz1).below h) hO hms)
      obtain ⟨bay, hbay⟩ : ∃ y, (F.park q.r).1 = y := ⟨_, rfl⟩
      obtain ⟨hz, hhz⟩ : ∃ y, q.hz T = y := ⟨_, rfl⟩
      have BG2 : Hid (∀ (w' : World), Below w.heap.size w w' → Calls Try.prog 85 #[.pointer (some ⟨N.p, 0, none⟩), .agg #[.int .i64 ((q).r), .int .i64 ((q).s), .int .i64 ((q).t), gv, .int .i64 ((q).h), .int .i64 ((q).m)]] w' fun e w'' => ∃ (lab' : Nat → Nat) (N' : PM) (rb : Nat) (tv av : Value), e = .returned (.pointer (some ⟨rb, 0, none⟩)) ∧ Al w'' lab' M T N' (S.beg F T q) 0 rb fb F q gv tv av bay hz ∧ N'.p = N.p ∧ (∀ k, k < w'.heap.size → lab' k = lb1 k) ∧ KeptL lb1 begL w' w'') := fun w' h => by
        have := BG.out w' h
        unfold beginPost at this
        rw [hbay, hhz] at this
        exact this
      have hms3 : (hz + 1) * ((q.gl.length : Int) + 1) * (F.n : Int) ≤ ((S.beg F T q).ms : Int) := by
        have := hbm.1
        unfold Rq.states at this
        rw [hhz] at this
        exact this
      rw [hbay, hhz] at HX hSI hO
      obtain ⟨sn, hsn⟩ : ∃ y : Nat, q.s = y := ⟨q.s.toNat, by have := hO.s; omega⟩
      obtain ⟨mn, hmn⟩ : ∃ y : Nat, q.m = y := ⟨q.m.toNat, by have := hO.m; omega⟩
      have hsn2 : sn < F.n := by have := hO.s; omega
      have hmn2 : 1 ≤ mn ∧ mn ≤ 1048576 := by have := hO.m; omega
      rw [hsn, hmn, Int.toNat_natCast, Int.toNat_natCast] at HX
      rw [hsn, Int.toNat_natCast] at hSI
      have HSN := hid hsn
      have HMN := hid hmn
      have HMS3 := hid hms3
      have HO := hid hO
      have HSI := hid hSI
      have HU := hid (And.intro hud (And.intro hu0 hu1))
      have HBM := hid hbm
      have HGV := hid hgv
      subst hgv
      clear hF hT hP hg hc hci hcode hsf hO hX hSI hst hbm hud hu0 hu1 hlb1 hz1 BG hbay hhz hms hI hsn hmn hms3
      go_enter Try.func65, Try.ntmps65
      go_wp2_with (first | (go_at_call 69; refine (CK.out _ (by (repeat (first | with_reducible exact Below.rf _ | with_reducible exact World.below_ext _ _ | with_reducible refine Below.ex ?_ _ | with_reducible refine Below.al ?_ _ | with_reducible refine Below.setCell ?_ (by simp) _ | with_reducible refine Below.drew ?_)))).mono ?_; rintro e w1 ⟨rfl, z, rfl⟩) | (go_at_call 84; refine (SF.out _ (by (repeat (first | with_reducible exact Below.rf _ | with_reducible exact World.below_ext _ _ | with_reducible refine Below.ex ?_ _ | with_reducible refine Below.al ?_ _ | with_reducible refine Below.setCell ?_ (by simp) _ | with_reducible refine Below.drew ?_)))).mono ?_; rintro e w1 ⟨rfl, z3, rfl⟩) | (go_at_call 85; refine calls_nm fun w3 hw3 => ?_; refine hold ?_))
      unfold Hid
      have B3 : Below w.heap.size w w3 := by rw [hw3]; (repeat (first | with_reducible exact Below.rf _ | with_reducible exact World.below_ext _ _ | with_reducible refine Below.ex ?_ _ | with_reducible refine Below.al ?_ _ | with_reducible refine Below.setCell ?_ (by simp) _ | with_reducible refine Below.drew ?_))
      have X3 : Blk w3 w.heap.size 6 (qcell q (.slice go q.gl.length gc)) := by
        rw [hw3]
        refine ⟨by (simp <;> omega), fun i hi => ?_, fun i hi => by simp [go_sem, ↓IntWalk.iteOmega]⟩
        rcases (by omega : i = 0 ∨ i = 1 ∨ i = 2 ∨ i = 3 ∨ i = 4 ∨ i = 5) with rfl | rfl | rfl | rfl | rfl | rfl <;> simp [go_sem, ↓IntWalk.iteOmega, qcell]
      have Q3 : Blk w3 (w.heap.size + 1) 5 (c5f (.int .u8 0) (.int .i64 (0)) (.slice none 0 0) (.slice none 0 0) (.int .i64 (0))) := by
        rw [hw3]
        refine ⟨by (simp <;> omega), fun i hi => ?_, fun i hi => by simp [go_sem, ↓IntWalk.iteOmega]⟩
        rcases (by omega : i = 0 ∨ i = 1 ∨ i = 2 ∨ i = 3 ∨ i = 4) with rfl | rfl | rfl | rfl | rfl <;> simp [go_sem, ↓IntWalk.iteOmega, c5f]
      clear hw3
      refine (BG2.out _ B3).mono ?_
      rintro e w4 ⟨l4, N4, rb, tv, av, rfl, hA4, hN4, hl4, hk4⟩
      obtain ⟨hud, hu0, hu1⟩ := HU.out
      have hs3 := B3.size
      have X4 := X3.keptL hk4 (by rw [hu0]; unfold begL; omega)
      have Q4 := Q3.keptL hk4 (by rw [hu1]; unfold begL; omega)
      have lx4 : l4 w.heap.size = 0 := (hl4 _ X3.lt).trans hu0
      have lq4 : l4 (w.heap.size + 1) = 1 := (hl4 _ Q3.lt).trans hu1
      have g4 : ∀ j, j < w.heap.size → l4 j = lab j := fun j hj => (hl4 j (by omega)).trans (hud j hj)
      have k4 : KeptL lab seaL w w4 := (KeptL.of_below B3).trans' (hk4.mono (fun x hx => by unfold begL at hx; unfold seaL; omega)) hud
      have x1 : w4.cell? ⟨w.heap.size, 1, none⟩ = some (.int .i64 (sn)) := by
        have := X4.is 1 (by omega)
        rw [this]
        show some (Value.int .i64 q.s) = _
        rw [HSN.out]
      have hxl := X4.lt
      have RE : Hid (∀ w' : World, Below w4.heap.size w4 w' → Calls Try.prog 86 #[.pointer (some ⟨rb, 0, none⟩), .int .i64 (sn), .int .i64 (0), .int .i64 (0), .int .i64 (-1)] w' (reachPost l4 N4 fb M.t 0 ((S.beg F T q).reach F q.gl bay hz sn 0 0 (-1)) w')) := fun w' h => reach_any M T N4 (S.beg F T q) 0 rb fb F l4 q _ tv av bay hz sn 0 0 (-1) w' (hA4.f.below h) (hA4.p.below h) (hA4.r.below h) HO.out.gok HO.out.bay HO.out.hz HMS3.out HBM.out.2 hsn2 (Nat.zero_le _) (by omega) ⟨by omega, by omega⟩ (by simp [PS.beg]) (by simp [PS.beg]) (by omega)
      have K4 := hid (And.intro hA4 (And.intro hN4 (And.intro X4 (And.intro Q4 (And.intro lx4 (And.intro lq4 (And.intro g4 k4)))))))
      clear hA4 hN4 hl4 hk4 X3 Q3 X4 Q4 lx4 lq4 g4 k4 hud hu0 hu1 HU BG2 CK SF B3 hs3
      go_wp2_with (first | (go_at_call 86; refine (RE.out _ (by (repeat (first | with_reducible exact Below.rf _ | with_reducible exact World.below_ext _ _ | with_reducible refine Below.ex ?_ _ | with_reducible refine Below.al ?_ _ | with_reducible refine Below.setCell ?_ (by simp) _ | with_reducible refine Below.drew ?_)))).mono ?_; rintro e w5 ⟨l5, N5, n5, rfl, hp5, hN5, hn5, hl5, hk5⟩))
      obtain ⟨hA4, hN4, X4, Q4, lx4, lq4, g4, k4⟩ := K4.out
      have hs4 := k4.size
      have SS : Hid (SrS lab w w.heap.size (w.heap.size + 1) M T rb fb F q (.slice go q.gl.length gc) tv av bay hz N.p S.st w5 l5 N5 ((S.beg F T q).reach F q.gl bay hz sn 0 0 (-1)) n5 0) :=
        ⟨hA4.step hl5 hk5 hp5 hN5, HSI.out, by omega, hN5.trans hN4, Q4.keptL hk5 (by rw [lq4]; unfold scrL; omega), (hl5 _ Q4.lt).trans lq4, X4.keptL hk5 (by rw [lx4]; unfold scrL; omega), (hl5 _ X4.lt).trans lx4, fun j hj => (hl5 j (by omega)).trans (g4 j hj), k4.trans' (hk5.mono (fun x hx => by unfold scrL at hx; unfold seaL; omega)) g4⟩
      clear hA4 hN4 X4 Q4 lx4 lq4 g4 k4 hs4 K4 RE hp5 hN5 hn5 hl5 hk5 x1 hxl
      obtain ⟨S0, hS0⟩ : ∃ y, (S.beg F T q).reach F q.gl bay hz sn 0 0 (-1) = y := ⟨_, rfl⟩
      rw [hS0] at SS HX
      clear hS0 HSI HMS3 HBM
      go_loopw [7] (fun v wr => ∃ (e : Nat) (l6 : Nat → Nat) (N6 : PM) (S6 : PS) (n6 : Nat), v = .int .i64 (e) ∧ e ≤ mn ∧ PS.srch F T q bay hz (mn - e) e S6 = X ∧ SrS lab w w.heap.size (w.heap.size + 1) M T rb fb F q (.slice go q.gl.length gc) tv av bay hz N.p S.st wr l6 N6 S6 n6 e) (fun v _ => mn - (intOf v).toNat)
      case atStart => exact ⟨0, l5, N5, S0, n5, rfl, by omega, HX.out, SS.out⟩
      case round =>
        obtain ⟨e, l6, N6, S6, n6, rfl, he, heq, hSr⟩ := hrel
        have HSr := hid hSr
        have hpp := hSr.p
        have hpl : N.p < wr.heap.size := by rw [← hpp]; exact hSr.a.p.bp.lt
        clear SS HX w5
        by_cases hne : S6.hp = []
        · have HE : Hid (X = (S6, Pl.fail q.t 4 e)) := by
            unfold Hid
            rw [← heq]
            cases mn - e with
            | zero => rw [PS.srch, if_pos hne]
            | succ k => rw [PS.srch, if_pos hne]
          have PN : Hid (Calls Try.prog 87 #[.pointer (some ⟨N.p, 2, none⟩)] wr fun e w' => e = .returned (.tuple #[.agg #[.int .i64 (0), .int .i64 (0), .int .i64 (0)], .bool false]) ∧ ∃ z, w' = wr.ext z) := by
            have hb := hSr.a.p.bh
            rw [hne] at hb
            have := pop_nil N6.p _ l6 wr hSr.a.p.bp hb
            rw [hpp] at this
            exact this
          clear heq hSr hne
          --BEGIN 1
          have x0 : (wr).cell? ⟨w.heap.size, 0, none⟩ = some (.int .i64 (q.r)) := HSr.out.bx.is 0 (by omega)
          have x1 : (wr).cell? ⟨w.heap.size, 1, none⟩ = some (.int .i64 (q.s)) := HSr.out.bx.is 1 (by omega)
          have x2 : (wr).cell? ⟨w.heap.size, 2, none⟩ = some (.int .i64 (q.t)) := HSr.out.bx.is 2 (by omega)
          have x3 : (wr).cell? ⟨w.heap.size, 3, none⟩ = some (.slice go q.gl.length gc) := HSr.out.bx.is 3 (by omega)
          have x4 : (wr).cell? ⟨w.heap.size, 4, none⟩ = some (.int .i64 (q.h)) := HSr.out.bx.is 4 (by omega)
          have x5 : (wr).cell? ⟨w.heap.size, 5, none⟩ = some (.int .i64 (q.m)) := HSr.out.bx.is 5 (by omega)
          have hxl := HSr.out.bx.lt
          go_wp2_with (first | (go_at_call 87; refine PN.out.mono ?_; rintro e w1 ⟨rfl, z, rfl⟩) | (go_at_call 68; refine calls_nm fun w7 hw7 => ?_; refine hold ?_))
          unfold Hid
          have SS8 := hid (HSr.out.below (w' := w7) (by rw [hw7]; (repeat (first | with_reducible exact Below.rf _ | with_reducible exact World.below_ext _ _ | with_reducible refine Below.ex ?_ _ | with_reducible refine Below.al ?_ _ | with_reducible refine Below.setCell ?_ (by simp) _ | with_reducible refine Below.drew ?_))))
          clear hw7 x0 x1 x2 x3 x4 x5 hxl hpl
          refine (FA.out _ _ _).mono ?_
          rintro e' w8 ⟨rfl, z8, rfl⟩
          have r0 : (w7).cell? ⟨w.heap.size + 1, 0, none⟩ = some (.int .u8 0) := SS8.out.bq.is 0 (by omega)
          have r1 : (w7).cell? ⟨w.heap.size + 1, 1, none⟩ = some (.int .i64 (0)) := SS8.out.bq.is 1 (by omega)
          have r2 : (w7).cell? ⟨w.heap.size + 1, 2, none⟩ = some (.slice none 0 0) := SS8.out.bq.is 2 (by omega)
          have r3 : (w7).cell? ⟨w.heap.size + 1, 3, none⟩ = some (.slice none 0 0) := SS8.out.bq.is 3 (by omega)
          have r4 : (w7).cell? ⟨w.heap.size + 1, 4, none⟩ = some (.int .i64 (0)) := SS8.out.bq.is 4 (by omega)
          have z0 := SS8.out.bq.fz 0 (by omega)
          have z1 := SS8.out.bq.fz 1 (by omega)
          have z2 := SS8.out.bq.fz 2 (by omega)
          have z3 := SS8.out.bq.fz 3 (by omega)
          have z4 := SS8.out.bq.fz 4 (by omega)
          have hql := SS8.out.bq.lt
          go_wp2
          refine bodyPost_ret (v := .agg #[.int .u8 (4), .int .i64 (q.t), .slice none 0 0, .slice none 0 0, .int .i64 (e)]) (by simp [results, Try.results65, go_sem, ↓IntWalk.iteOmega, r0, r1, r2, r3, r4]) rfl ?_
          obtain ⟨f1, f2, f3⟩ := SS8.out.fin (Nat.le_succ _) (.int .u8 4) (.int .i64 (q.t)) (.slice none 0 0) (.slice none 0 0) (.int .i64 (e))
          refine ⟨l6, _, n6, _, rfl, ?_, SS8.out.p, SS8.out.g, f2.ex z8, ?_⟩
          · rw [HS.out, HE.out]; exact f1.below (World.below_ext _ _)
          · rw [HS.out, HE.out]; exact PlV.fail _ _ _ _ _
          --END 1
        · have htop := hSr.i.top hne
          have hxo := hSr.i.s.ok _ (List.mem_of_getElem? htop)
          have hil := (List.getElem?_eq_some_iff.1 htop).1
          have hndl := hSr.i.s.nd
          have hhpl := hSr.i.s.hp
          have PO : Hid (Calls Try.prog 87 #[.pointer (some ⟨N.p, 2, none⟩)] wr fun e w' => ∃ hv', e = .returned (.tuple #[.agg #[.int .i64 ((S6.hp.getD (best S6.hp) It.nil).k), .int .i64 ((S6.hp.getD (best S6.hp) It.nil).t), .int .i64 ((S6.hp.getD (best S6.hp) It.nil).v)], .bool true]) ∧ PAt w' l6 ⟨N6.p, hv', N6.nv, N6.kb, N6.mb⟩ fb M.t { S6 with hp := S6.hp.eraseIdx (best S6.hp) } n6 ∧ KeptL l6 scrL wr w') := by
            have := pop_P hSr.a.p hne (by omega)
            rw [hpp] at this
            rw [hpp]
            exact this
          by_cases hem : e = mn
          · have HE : Hid (X = ({ S6 with hp := S6.hp.eraseIdx (best S6.hp) }, Pl.fail q.t 5 e)) := by
              unfold Hid
              rw [← heq, show mn - e = 0 by omega, PS.srch, if_neg hne]
            have dm : ((e : Int) == q.m) = true := by rw [HMN.out]; simp; omega
            clear heq hSr hne htop hxo hil hndl hhpl hem
            --BEGIN 2
            have x0 : (wr).cell? ⟨w.heap.size, 0, none⟩ = some (.int .i64 (q.r)) := HSr.out.bx.is 0 (by omega)
            have x1 : (wr).cell? ⟨w.heap.size, 1, none⟩ = some (.int .i64 (q.s)) := HSr.out.bx.is 1 (by omega)
            have x2 : (wr).cell? ⟨w.heap.size, 2, none⟩ = some (.int .i64 (q.t)) := HSr.out.bx.is 2 (by omega)
            have x3 : (wr).cell? ⟨w.heap.size, 3, none⟩ = some (.slice go q.gl.length gc) := HSr.out.bx.is 3 (by omega)
            have x4 : (wr).cell? ⟨w.heap.size, 4, none⟩ = some (.int .i64 (q.h)) := HSr.out.bx.is 4 (by omega)
            have x5 : (wr).cell? ⟨w.heap.size, 5, none⟩ = some (.int .i64 (q.m)) := HSr.out.bx.is 5 (by omega)
            have hxl := HSr.out.bx.lt
            generalize (S6.hp.getD (best S6.hp) It.nil).k = tk at *
            generalize (S6.hp.getD (best S6.hp) It.nil).t = tt at *
            generalize (S6.hp.getD (best S6.hp) It.nil).v = tw at *
            go_wp2_with (first | (go_at_call 87; refine calls_nm fun w7 hw7 => ?_; refine hold ?_))
            unfold Hid
            subst hw7
            refine PO.out.mono ?_
            rintro e' w6 ⟨hv', rfl, hp6, hk6⟩
            have SS6 := hid (HSr.out.step (fun _ _ => rfl) hk6 hp6 rfl HSr.out.i.pop HSr.out.n)
            clear x0 x1 x2 x3 x4 x5 hxl hpl hk6 hp6 PO HSr
            have x0 : (w6).cell? ⟨w.heap.size, 0, none⟩ = some (.int .i64 (q.r)) := SS6.out.bx.is 0 (by omega)
            have x1 : (w6).cell? ⟨w.heap.size, 1, none⟩ = some (.int .i64 (q.s)) := SS6.out.bx.is 1 (by omega)
            have x2 : (w6).cell? ⟨w.heap.size, 2, none⟩ = some (.int .i64 (q.t)) := SS6.out.bx.is 2 (by omega)
            have x3 : (w6).cell? ⟨w.heap.size, 3, none⟩ = some (.slice go q.gl.length gc) := SS6.out.bx.is 3 (by omega)
            have x4 : (w6).cell? ⟨w.heap.size, 4, none⟩ = some (.int .i64 (q.h)) := SS6.out.bx.is 4 (by omega)
            have x5 : (w6).cell? ⟨w.heap.size, 5, none⟩ = some (.int .i64 (q.m)) := SS6.out.bx.is 5 (by omega)
            have hxl := SS6.out.bx.lt
            go_wp2_with (first | (go_at_call 68; refine calls_nm fun w7 hw7 => ?_; refine hold ?_))
            unfold Hid
            have SS8 := hid (SS6.out.below (w' := w7) (by rw [hw7]; (repeat (first | with_reducible exact Below.rf _ | with_reducible exact World.below_ext _ _ | with_reducible refine Below.ex ?_ _ | with_reducible refine Below.al ?_ _ | with_reducible refine Below.setCell ?_ (by simp) _ | with_reducible refine Below.drew ?_))))
            clear hw7 x0 x1 x2 x3 x4 x5 hxl
            refine (FA.out _ _ _).mono ?_
            rintro e' w8 ⟨rfl, z8, rfl⟩
            have r0 : (w7).cell? ⟨w.heap.size + 1, 0, none⟩ = some (.int .u8 0) := SS8.out.bq.is 0 (by omega)
            have r1 : (w7).cell? ⟨w.heap.size + 1, 1, none⟩ = some (.int .i64 (0)) := SS8.out.bq.is 1 (by omega)
            have r2 : (w7).cell? ⟨w.heap.size + 1, 2, none⟩ = some (.slice none 0 0) := SS8.out.bq.is 2 (by omega)
            have r3 : (w7).cell? ⟨w.heap.size + 1, 3, none⟩ = some (.slice none 0 0) := SS8.out.bq.is 3 (by omega)
            have r4 : (w7).cell? ⟨w.heap.size + 1, 4, none⟩ = some (.int .i64 (0)) := SS8.out.bq.is 4 (by omega)
            have z0 := SS8.out.bq.fz 0 (by omega)
            have z1 := SS8.out.bq.fz 1 (by omega)
            have z2 := SS8.out.bq.fz 2 (by omega)
            have z3 := SS8.out.bq.fz 3 (by omega)
            have z4 := SS8.out.bq.fz 4 (by omega)
            have hql := SS8.out.bq.lt
            go_wp2
            refine bodyPost_ret (v := .agg #[.int .u8 (5), .int .i64 (q.t), .slice none 0 0, .slice none 0 0, .int .i64 (e)]) (by simp [results, Try.results65, go_sem, ↓IntWalk.iteOmega, r0, r1, r2, r3, r4]) rfl ?_
            obtain ⟨f1, f2, f3⟩ := SS8.out.fin (Nat.le_succ _) (.int .u8 5) (.int .i64 (q.t)) (.slice none 0 0) (.slice none 0 0) (.int .i64 (e))
            refine ⟨l6, _, n6, _, rfl, ?_, SS8.out.p, SS8.out.g, f2.ex z8, ?_⟩
            · rw [HS.out, HE.out]; exact f1.below (World.below_ext _ _)
            · rw [HS.out, HE.out]; exact PlV.fail _ _ _ _ _
            --END 2
          · have dm : ((e : Int) == q.m) = false := by rw [HMN.out]; simp; omega
            have hlt : e < mn := by omega
            have hbb := hSr.a.t.bd.base
            have hTt := HO.out.t
            have hhz := HO.out.hz
            have hk16 := HO.out.gok.1
            have hn384 := hSr.a.f.ok.n
            rw [show mn - e = (mn - (e + 1)) + 1 by omega, PS.srch, if_neg hne] at heq
            have HEQ := hid heq
            have HTOP := hid htop
            have HNE := hid hne
            have hbd : 1 + 400 * e ≤ 500000000 := by omega
            have HXO := hid hxo
            generalize hxx : S6.nd.getD (S6.hp.getD (best S6.hp) It.nil).v Nd.nil = x at *
            generalize (S6.hp.getD (best S6.hp) It.nil).v = tv2 at *
            have hxo255 : x.o ≤ 255 := by omega
            clear heq hSr hne htop hxo hem hxx
            --BEGIN 3
            have x0 : (wr).cell? ⟨w.heap.size, 0, none⟩ = some (.int .i64 (q.r)) := HSr.out.bx.is 0 (by omega)
            have x1 : (wr).cell? ⟨w.heap.size, 1, none⟩ = some (.int .i64 (q.s)) := HSr.out.bx.is 1 (by omega)
            have x2 : (wr).cell? ⟨w.heap.size, 2, none⟩ = some (.int .i64 (q.t)) := HSr.out.bx.is 2 (by omega)
            have x3 : (wr).cell? ⟨w.heap.size, 3, none⟩ = some (.slice go q.gl.length gc) := HSr.out.bx.is 3 (by omega)
            have x4 : (wr).cell? ⟨w.heap.size, 4, none⟩ = some (.int .i64 (q.h)) := HSr.out.bx.is 4 (by omega)
            have x5 : (wr).cell? ⟨w.heap.size, 5, none⟩ = some (.int .i64 (q.m)) := HSr.out.bx.is 5 (by omega)
            have hxl := HSr.out.bx.lt
            generalize (S6.hp.getD (best S6.hp) It.nil).k = tk at *
            generalize (S6.hp.getD (best S6.hp) It.nil).t = tt at *
            go_wp2_with (first | (go_at_call 87; refine calls_nm fun w7 hw7 => ?_; refine hold ?_))
            unfold Hid
            subst hw7
            refine PO.out.mono ?_
            rintro e' w6 ⟨hv', rfl, hp6, hk6⟩
            have SS6 := hid (HSr.out.step (fun _ _ => rfl) hk6 hp6 rfl HSr.out.i.pop HSr.out.n)
            clear x0 x1 x2 x3 x4 x5 hxl hpl hk6 hp6 PO HSr
            have x0 : (w6).cell? ⟨w.heap.size, 0, none⟩ = some (.int .i64 (q.r)) := SS6.out.bx.is 0 (by omega)
            have x1 : (w6).cell? ⟨w.heap.size, 1, none⟩ = some (.int .i64 (q.s)) := SS6.out.bx.is 1 (by omega)
            have x2 : (w6).cell? ⟨w.heap.size, 2, none⟩ = some (.int .i64 (q.t)) := SS6.out.bx.is 2 (by omega)
            have x3 : (w6).cell? ⟨w.heap.size, 3, none⟩ = some (.slice go q.gl.length gc) := SS6.out.bx.is 3 (by omega)
            have x4 : (w6).cell? ⟨w.heap.size, 4, none⟩ = some (.int .i64 (q.h)) := SS6.out.bx.is 4 (by omega)
            have x5 : (w6).cell? ⟨w.heap.size, 5, none⟩ = some (.int .i64 (q.m)) := SS6.out.bx.is 5 (by omega)
            have hxl := SS6.out.bx.lt
            go_wp2
            refine wp_nm fun w7 hw7 => ?_
            have SS7 := hid (SS6.out.below (w' := w7) (by rw [hw7]; (repeat (first | with_reducible exact Below.rf _ | with_reducible exact World.below_ext _ _ | with_reducible refine Below.ex ?_ _ | with_reducible refine Below.al ?_ _ | with_reducible refine Below.setCell ?_ (by simp) _ | with_reducible refine Below.drew ?_))))
            have i2 : w7.cell? ⟨w6.heap.size, 2, none⟩ = some (.int .i64 (tv2)) := by rw [hw7]; simp [go_sem, ↓IntWalk.iteOmega]
            have hil2 : w6.heap.size < w7.heap.size := by rw [hw7]; simp
            obtain ⟨ib, hib⟩ : ∃ y, w6.heap.size = y := ⟨_, rfl⟩
            rw [hib] at i2 hil2 ⊢
            clear hw7 hib x0 x1 x2 x3 x4 x5 hxl SS6
            obtain ⟨nb, nc, hnv, hncc, hnl, -, hcell⟩ := SS7.out.a.p.bn.see (by simp only; omega)
            obtain ⟨e0, e1, e2, e3⟩ := nrow_at S6.nd tv2 x HTOP.out
            have q0 := hcell _ _ e0
            have q1 := hcell _ _ e1
            have q2 := hcell _ _ e2
            have q3 := hcell _ _ e3
            have c4 : w7.cell? ⟨N.p, 4, none⟩ = some (.slice (some ⟨nb, 0, none⟩) S6.nd.length nc) := by
              have := SS7.out.a.p.c4
              rw [hnv] at this
              rw [← hpp]
              exact this
            have hpl : N.p < w7.heap.size := by rw [← hpp]; exact SS7.out.a.p.bp.lt
            have AR := hid (fun (w' : World) (h : Below w7.heap.size w7 w') => arrived_any M T _ _ n6 rb fb F l6 q _ tv av bay hz x w' (SS7.out.a.below h).t (SS7.out.a.below h).p (SS7.out.a.below h).r ⟨by omega, by omega⟩ (by omega) hk16)
            clear hcell e0 e1 e2 e3 hnv
            cases har : T.arrd q bay x with
            | true =>
              rw [har] at AR HEQ
              rw [if_pos rfl] at HEQ
              have TC : Hid (∀ (w' : World), Below w7.heap.size w7 w' → Calls Try.prog 89 #[.pointer (some ⟨rb, 0, none⟩), .int .i64 (tv2), .int .i64 ((e : Int) + 1)] w' (tracePost (Pl.trace S6.nd q tv2 ((e : Int) + 1)) w')) := fun w' h => trace_any M T ⟨N6.p, hv', N6.nv, N6.kb, N6.mb⟩ { S6 with hp := S6.hp.eraseIdx (best S6.hp) } n6 rb fb F l6 q _ tv av bay hz tv2 x _ w' (SS7.out.a.below h) HO.out SS7.out.i.n.tr (fun y hy => by have := SS7.out.i.s.ok y hy; exact ⟨by omega, by omega, this.2.1⟩) (by show S6.nd.length ≤ _; omega) HTOP.out
              clear har
              first | with_reducible refine wp_region_ext2 (by kernel_rfl) (by kernel_rfl) ?_ | refine wp_region_ext (by kernel_rfl) (by kernel_rfl) ?_
              repeat (go_big_quiet_step ((go_at_call 88; exact Calls.ext_of (AR.out _ (by (repeat (first | with_reducible exact Below.rf _ | with_reducible exact World.below_ext _ _ | with_reducible refine Below.ex ?_ _ | with_reducible refine Below.al ?_ _ | with_reducible refine Below.setCell ?_ (by simp) _ | with_reducible refine Below.drew ?_)))))))
              refine wpQuiet_nil ?_
              rintro _ ⟨z, rfl⟩
              go_wp2_with (first | (go_at_call 89; refine hold ?_))
              unfold Hid
              have hb9 := World.below_ext w7 z
              generalize w7.ext z = w9 at hb9 ⊢
              have SS9 := SS7.out.below hb9
              refine (TC.out _ hb9).mono ?_
              rintro e' w10 ⟨v, rfl, hb10, hpl10⟩
              have hl10 : ∀ j, j < w9.heap.size → (fun b => if b < w9.heap.size then l6 b else 0) j = l6 j := fun j hj => if_pos hj
              have hP10 := hpl10 (fun b => if b < w9.heap.size then l6 b else 0) (fun j hj => if_neg (by omega))
              obtain ⟨l10, hl10e⟩ : ∃ y, (fun b => if b < w9.heap.size then l6 b else 0) = y := ⟨_, rfl⟩
              rw [hl10e] at hl10 hP10
              have SS10 := hid (SS9.step hl10 (KeptL.of_below hb10) ((SS9.a.p.relab hl10).below hb10) rfl SS9.i SS9.n)
              have HP10 := hid hP10
              obtain ⟨pv, dv, hv, hi1, hi2, -⟩ := hP10
              obtain ⟨po, pc, hpv, -⟩ := hi1.ex
              obtain ⟨dq, dc, hdv, -⟩ := hi2.ex
              subst hpv hdv
              have hv2 : v = .agg #[.int .u8 (0), .int .i64 (q.t), .slice po (Pl.trace S6.nd q tv2 ((e : Int) + 1)).path.length pc, .slice dq (Pl.trace S6.nd q tv2 ((e : Int) + 1)).done.length dc, .int .i64 ((e : Int) + 1)] := hv
              subst hv2
              generalize (Pl.trace S6.nd q tv2 ((e : Int) + 1)).path.length = pn at *
              generalize (Pl.trace S6.nd q tv2 ((e : Int) + 1)).done.length = dn at *
              clear hv hi1 hi2 hb10 hpl10 hl10 hl10e SS9 hb9 AR TC q0 q1 q2 q3 c4 hpl i2 hil2 hncc hnl
              have r0 : (w10).cell? ⟨w.heap.size + 1, 0, none⟩ = some (.int .u8 0) := SS10.out.bq.is 0 (by omega)
              have r1 : (w10).cell? ⟨w.heap.size + 1, 1, none⟩ = some (.int .i64 (0)) := SS10.out.bq.is 1 (by omega)
              have r2 : (w10).cell? ⟨w.heap.size + 1, 2, none⟩ = some (.slice none 0 0) := SS10.out.bq.is 2 (by omega)
              have r3 : (w10).cell? ⟨w.heap.size + 1, 3, none⟩ = some (.slice none 0 0) := SS10.out.bq.is 3 (by omega)
              have r4 : (w10).cell? ⟨w.heap.size + 1, 4, none⟩ = some (.int .i64 (0)) := SS10.out.bq.is 4 (by omega)
              have z0 := SS10.out.bq.fz 0 (by omega)
              have z1 := SS10.out.bq.fz 1 (by omega)
              have z2 := SS10.out.bq.fz 2 (by omega)
              have z3 := SS10.out.bq.fz 3 (by omega)
              have z4 := SS10.out.bq.fz 4 (by omega)
              have hql := SS10.out.bq.lt
              go_wp2
              refine bodyPost_ret (v := .agg #[.int .u8 (0), .int .i64 (q.t), .slice po pn pc, .slice dq dn dc, .int .i64 ((e : Int) + 1)]) (by simp [results, Try.results65, go_sem, ↓IntWalk.iteOmega, r0, r1, r2, r3, r4]) rfl ?_
              obtain ⟨f1, f2, f3⟩ := SS10.out.fin (Nat.le_succ _) (.int .u8 0) (.int .i64 (q.t)) (.slice po pn pc) (.slice dq dn dc) (.int .i64 ((e : Int) + 1))
              refine ⟨l10, _, n6, _, rfl, ?_, SS10.out.p, SS10.out.g, f2, ?_⟩
              · rw [HS.out, ← HEQ.out]; exact f1
              · rw [HS.out, ← HEQ.out]; exact HP10.out.keptL f3 (fun x hx => by omega)
            | false =>
              rw [har] at AR HEQ
              rw [if_neg (by simp)] at HEQ
              have EX := hid (fun (w' : World) (h : Below w7.heap.size w7 w') => expand_any M T _ _ n6 rb fb F l6 q _ tv av bay hz tv2 x (1 + 400 * e) w' (SS7.out.a.below h) HO.out SS7.out.i.s (by omega) (by have := SS7.out.n; omega) HTOP.out)
              have SE := hid (SS7.out.i.expand SS7.out.a.f.ok tv2 x HTOP.out)
              clear har
              first | with_reducible refine wp_region_ext2 (by kernel_rfl) (by kernel_rfl) ?_ | refine wp_region_ext (by kernel_rfl) (by kernel_rfl) ?_
              repeat (go_big_quiet_step ((go_at_call 88; exact Calls.ext_of (AR.out _ (by (repeat (first | with_reducible exact Below.rf _ | with_reducible exact World.below_ext _ _ | with_reducible refine Below.ex ?_ _ | with_reducible refine Below.al ?_ _ | with_reducible refine Below.setCell ?_ (by simp) _ | with_reducible refine Below.drew ?_)))))))
              refine wpQuiet_nil ?_
              rintro _ ⟨z, rfl⟩
              go_wp2_with (first | (go_at_call 90; refine hold ?_))
              unfold Hid
              have hb9 := World.below_ext w7 z
              generalize w7.ext z = w9 at hb9 ⊢
              have SS9 := SS7.out.below hb9
              refine (EX.out _ hb9).mono ?_
              rintro e' w10 ⟨l10, N10, n10, rfl, hp10, hN10, hn10, hl10, hk10⟩
              have hn6 := SS7.out.n
              have SS10 := hid (SS9.step (e' := e + 1) hl10 hk10 hp10 hN10 (by rw [show 1 + 400 * (e + 1) = 1 + 400 * e + 400 by omega]; exact SE.out) (by omega))
              clear hp10 hN10 hn10 hl10 hk10 SS9 hb9 AR EX q0 q1 q2 q3 c4 hpl i2 hil2 hncc hnl hn6
              go_wp2
              go_roundw
              case rel => exact ⟨e + 1, l10, N10, _, n10, by go_num, by omega, HEQ.out, SS10.out⟩
              case measure => (simp [intOf] <;> omega)
            --END 3
end Go.Proofs.Qxb6500716a
