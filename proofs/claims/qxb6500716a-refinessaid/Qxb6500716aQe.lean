/-
  Plain: what an expansion does to the nodes; the search; the trace.
-/
import Derived.Test.Qxb6500716aQi
import Derived.Test.Qxb6500716aPx
namespace Go.Proofs.Qxb6500716a
open Go.RowKit Go.Maps
set_option linter.unusedSimpArgs false
set_option linter.unusedVariables false
set_option maxRecDepth 20000
set_option maxHeartbeats 4000000

/-- The state (c, o, l) follows the node x. -/
def Nxt (F : FS) (T : TS) (q : Rq) (x : Nd) (c o l : Nat) : Prop :=
  (∃ g, q.gl[x.l]? = some g ∧ g.1 = x.c ∧ T.stays q.r x.c (q.t + x.o) 0 g.2.toNat = true ∧ c = x.c ∧ o = x.o + g.2.toNat ∧ l = x.l + 1) ∨ (((c = x.c ∨ (c : Int) ∈ F.near x.c) ∧ T.freeM q.r x.c c (q.t + x.o) = true) ∧ o = x.o + 1 ∧ l = x.l)
theorem nearGo_ind {F : FS} {T : TS} {q : Rq} {bay hz : Int} {c o l : Nat} {id : Int} (P : Nat → PS → Prop) (hw : ∀ d S, P d S → P (d + 1) S) (R : List Int)
    (hs : ∀ d S to, to ∈ R → P d S → T.freeM q.r c to (q.t + o) = true → P (d + 1) (S.reach F q.gl bay hz to.toNat (o + 1) l id)) :
    ∀ (r : List Int), (∀ to, to ∈ r → to ∈ R) → ∀ d S, P d S → P (d + r.length) (nearGo F T q bay hz c o l id r S)
  | [], _, d, S, h => h
  | to :: r, hr, d, S, h => by
    rw [nearGo, List.length_cons, show d + (r.length + 1) = (d + 1) + r.length by omega]
    refine nearGo_ind P hw R hs r (fun x hx => hr x (by simp [hx])) (d + 1) _ ?_
    split
    · rename_i hf
      exact hs d S to (hr to (by simp)) h hf
    · exact hw d S h
theorem expand_ind {F : FS} {T : TS} {q : Rq} {bay hz : Int} {x : Nd} {id : Int} (hF : FOk F) (P : Nat → PS → Prop) (hw : ∀ d S, P d S → P (d + 1) S)
    (hs : ∀ d S c o l, P d S → Nxt F T q x c o l → P (d + 1) (S.reach F q.gl bay hz c o l id)) (S : PS) (d : Nat) (h0 : P d S) : P (d + (2 + (F.near x.c).length)) (S.expand F T q bay hz x id) := by
  unfold PS.expand
  rw [show d + (2 + (F.near x.c).length) = (d + 1 + 1) + (F.near x.c).length by omega]
  refine nearGo_ind P hw (F.near x.c) (fun d S to hto h hf => ?_) _ (fun _ h => h) _ _ ?_
  · have hb := hF.near x.c to hto
    refine hs d S to.toNat (x.o + 1) x.l h (Or.inr ⟨⟨Or.inr ?_, ?_⟩, rfl, rfl⟩)
    · rw [Int.toNat_of_nonneg hb.1]; exact hto
    · rw [Int.toNat_of_nonneg hb.1]; exact hf
  · have h1 : P (d + 1) (S.exp1 F T q bay hz x.c x.o x.l id) := by
      unfold PS.exp1
      split
      · rename_i g hg
        split
        · rename_i hc
          exact hs d S x.c (x.o + g.2.toNat) (x.l + 1) h0 (Or.inl ⟨g, hg, hc.1, hc.2, rfl, rfl, rfl⟩)
        · exact hw d S h0
      · exact hw d S h0
    unfold PS.exp2
    split
    · rename_i hf
      exact hs _ _ x.c (x.o + 1) x.l h1 (Or.inr ⟨⟨Or.inl rfl, hf⟩, rfl, rfl⟩)
    · exact hw _ _ h1
/-- Every node is the first or follows one before it. -/
def NOk (F : FS) (T : TS) (q : Rq) (bay hz : Int) (nd : List Nd) : Prop :=
  ∀ (i : Nat) (y : Nd), nd[i]? = some y → (y = ⟨q.s.toNat, 0, 0, -1⟩ ∨ ∃ (j : Nat) (x : Nd), y.p = (j : Int) ∧ j < i ∧ nd[j]? = some x ∧ Nxt F T q x y.c y.o y.l) ∧ (y.o : Int) + (F.est bay q.gl y.c y.l : Int) ≤ hz
theorem NOk.push {F : FS} {T : TS} {q : Rq} {bay hz : Int} {nd : List Nd} (h : NOk F T q bay hz nd) (y : Nd) (hy : (y = ⟨q.s.toNat, 0, 0, -1⟩ ∨ ∃ (j : Nat) (x : Nd), y.p = (j : Int) ∧ j < nd.length ∧ nd[j]? = some x ∧ Nxt F T q x y.c y.o y.l) ∧ (y.o : Int) + (F.est bay q.gl y.c y.l : Int) ≤ hz) : NOk F T q bay hz (nd ++ [y]) := by
  intro i z hz
  have old : ∀ (j : Nat) (x : Nd), nd[j]? = some x → (nd ++ [y])[j]? = some x := fun j x hj => by
    rw [List.getElem?_append_left (List.getElem?_eq_some_iff.1 hj).1]; exact hj
  by_cases hi : i < nd.length
  · rw [List.getElem?_append_left hi] at hz
    obtain ⟨h1, h2⟩ := h i z hz
    refine ⟨or_map h1 ?_, h2⟩
    rintro ⟨j, x, a, b, c, d⟩
    exact ⟨j, x, a, b, old j x c, d⟩
  · rw [List.getElem?_append_right (by omega)] at hz
    have he : i - nd.length = 0 := by
      have := (List.getElem?_eq_some_iff.1 hz).1
      simp at this; omega
    rw [he] at hz
    simp at hz
    subst hz
    refine ⟨or_map hy.1 ?_, hy.2⟩
    rintro ⟨j, x, a, b, c, d⟩
    exact ⟨j, x, a, by omega, old j x c, d⟩
theorem NOk.reach {F : FS} {T : TS} {q : Rq} {bay hz : Int} {S : PS} (h : NOk F T q bay hz S.nd) (c o l : Nat) (p : Int) (hy : ((⟨c, o, l, p⟩ : Nd) = ⟨q.s.toNat, 0, 0, -1⟩ ∨ ∃ (j : Nat) (x : Nd), p = (j : Int) ∧ j < S.nd.length ∧ S.nd[j]? = some x ∧ Nxt F T q x c o l)) : NOk F T q bay hz (S.reach F q.gl bay hz c o l p).nd := by
  unfold PS.reach
  split
  · exact h
  · rename_i g1
    split
    · exact h
    · exact h.push ⟨c, o, l, p⟩ ⟨hy, by simp only; omega⟩
theorem reach_old {F : FS} {gl : List (Int × Int)} {bay hz : Int} {S : PS} (c o l : Nat) (p : Int) (j : Nat) (x : Nd) (h : S.nd[j]? = some x) : (S.reach F gl bay hz c o l p).nd[j]? = some x := by
  unfold PS.reach
  split
  · exact h
  · split
    · exact h
    · simp only
      rw [List.getElem?_append_left (List.getElem?_eq_some_iff.1 h).1]; exact h
theorem reach_st {F : FS} {gl : List (Int × Int)} {bay hz : Int} {S : PS} (c o l : Nat) (p : Int) : (S.reach F gl bay hz c o l p).st = S.st := by
  unfold PS.reach
  split
  · rfl
  · split <;> rfl
/-- What stands all through a search. -/
structure SIn (F : FS) (T : TS) (q : Rq) (bay hz : Int) (st : Nat → Int) (B : Nat) (S : PS) : Prop where
  s : Sok F q hz S B
  n : NOk F T q bay hz S.nd
  st : S.st = st
theorem Nxt.bd {F : FS} {T : TS} {q : Rq} {x : Nd} {c o l : Nat} (hF : FOk F) (h : Nxt F T q x c o l) (hx : x.c < F.n) (hl : x.l ≤ q.gl.length) : c < F.n ∧ l ≤ q.gl.length := by
  rcases h with ⟨g, h1, h2, h3, rfl, rfl, rfl⟩ | ⟨⟨h1, h2⟩, rfl, rfl⟩
  · exact ⟨hx, (List.getElem?_eq_some_iff.1 h1).1⟩
  · refine ⟨?_, hl⟩
    rcases h1 with rfl | h1
    · exact hx
    · have := hF.near _ _ h1; omega
theorem SIn.expand {F : FS} {T : TS} {q : Rq} {bay hz : Int} {st : Nat → Int} {B : Nat} {S : PS} (hF : FOk F) (h : SIn F T q bay hz st B S) (id : Nat) (x : Nd) (hx : S.nd[id]? = some x) : SIn F T q bay hz st (B + 400) (S.expand F T q bay hz x id) := by
  have hxo := h.s.ok x (List.mem_of_getElem? hx)
  have := expand_ind (T := T) (q := q) (bay := bay) (hz := hz) (x := x) (id := (id : Int)) hF (fun d S => SIn F T q bay hz st (B + d) S ∧ S.nd[id]? = some x) (fun d S h => ⟨⟨⟨h.1.s.ms, h.1.s.ms2, by have := h.1.s.nd; omega, by have := h.1.s.hp; omega, h.1.s.ok, h.1.s.hv⟩, h.1.n, h.1.st⟩, h.2⟩)
    (fun d S c o l h hn => by
      have hb := hn.bd hF hxo.1 hxo.2.1
      have hil := (List.getElem?_eq_some_iff.1 h.2).1
      refine ⟨⟨(h.1.s.reach (bay := bay) c o l (id : Int) hb.1 hb.2 ⟨by omega, by omega⟩).1, h.1.n.reach c o l id (Or.inr ⟨id, x, rfl, hil, h.2, hn⟩), (reach_st ..).trans h.1.st⟩, reach_old c o l _ id x h.2⟩) S 0 ⟨h, hx⟩
  have hl := hF.nearL x.c
  have hn := hF.n
  obtain ⟨⟨h1, h2, h3⟩, -⟩ := this
  exact ⟨⟨h1.ms, h1.ms2, by have := h1.nd; omega, by have := h1.hp; omega, h1.ok, h1.hv⟩, h2, h3⟩
/-- What trace needs of the nodes. -/
structure TrOk (nd : List Nd) : Prop where
  ok : ∀ (i : Nat) (y : Nd), nd[i]? = some y → -1 ≤ y.p ∧ y.p < (i : Int) ∧ (0 ≤ y.p → ∃ x, nd[y.p.toNat]? = some x ∧ x.o ≤ y.o ∧ x.l ≤ y.l)
theorem NOk.tr {F : FS} {T : TS} {q : Rq} {bay hz : Int} {nd : List Nd} (h : NOk F T q bay hz nd) : TrOk nd := ⟨by
  intro i y hy
  obtain ⟨h1, h2⟩ := h i y hy
  rcases h1 with rfl | ⟨j, x, h3, h4, h5, h6⟩
  · exact ⟨by simp, by simp only; omega, fun h => by simp at h⟩
  · refine ⟨by omega, by omega, fun _ => ⟨x, by rw [h3, Int.toNat_natCast]; exact h5, ?_⟩⟩
    rcases h6 with ⟨g, a1, a2, a3, a4, a5, a6⟩ | ⟨⟨a1, a2⟩, a3, a4⟩ <;> omega⟩
def Nd.nil : Nd := ⟨0, 0, 0, -1⟩
/-- The path with c from a to b. -/
def filP (p : Nat → Int) (a b : Nat) (c : Int) : Nat → Int := fun j => if a ≤ j ∧ j < b then c else p j
/-- What 'trace' writes: path and done ticks. -/
def trcGo (nd : List Nd) (t : Int) : Nat → Int → (Nat → Int) → (Nat → Int) → (Nat → Int) × (Nat → Int)
  | 0, _, p, d => (p, d)
  | k + 1, id, p, d => if id < 0 then (p, d) else
    trcGo nd t k (nd.getD id.toNat Nd.nil).p (filP p (if 0 ≤ (nd.getD id.toNat Nd.nil).p then (nd.getD (nd.getD id.toNat Nd.nil).p.toNat Nd.nil).o + 1 else 0) ((nd.getD id.toNat Nd.nil).o + 1) (nd.getD id.toNat Nd.nil).c)
      (if 0 ≤ (nd.getD id.toNat Nd.nil).p ∧ (nd.getD (nd.getD id.toNat Nd.nil).p.toNat Nd.nil).l < (nd.getD id.toNat Nd.nil).l then upd d (nd.getD (nd.getD id.toNat Nd.nil).p.toNat Nd.nil).l (t + (nd.getD id.toNat Nd.nil).o) else d)
def trc (nd : List Nd) (t : Int) (id : Nat) : (Nat → Int) × (Nat → Int) := trcGo nd t (id + 1) id (fun _ => 0) (fun _ => 0)
/-- An answer to a request. -/
structure Pl where
  c : Nat
  t : Int
  path : List Int
  done : List Int
  x : Int
def Pl.fail (t : Int) (c : Nat) (x : Int) : Pl := ⟨c, t, [], [], x⟩
def lst (n : Nat) (f : Nat → Int) : List Int := (List.range n).map f
theorem lst_len (n : Nat) (f : Nat → Int) : (lst n f).length = n := by simp [lst]
theorem lst_at (n : Nat) (f : Nat → Int) (j : Nat) (h : j < n) : (lst n f)[j]? = some (f j) := by simp [lst, h]
def Pl.trace (nd : List Nd) (q : Rq) (id : Nat) (x : Int) : Pl := ⟨0, q.t, lst ((nd.getD id Nd.nil).o + 1) (trc nd q.t id).1, lst q.gl.length (trc nd q.t id).2, x⟩
/-- The search's loop: k more expansions are allowed. -/
def PS.srch (F : FS) (T : TS) (q : Rq) (bay hz : Int) : Nat → Nat → PS → PS × Pl
  | 0, e, S => if S.hp = [] then (S, Pl.fail q.t 4 e) else ({ S with hp := S.hp.eraseIdx (best S.hp) }, Pl.fail q.t 5 e)
  | k + 1, e, S => if S.hp = [] then (S, Pl.fail q.t 4 e) else
    if T.arrd q bay (S.nd.getD (S.hp.getD (best S.hp) It.nil).v Nd.nil) = true then ({ S with hp := S.hp.eraseIdx (best S.hp) }, Pl.trace S.nd q (S.hp.getD (best S.hp) It.nil).v (e + 1))
    else PS.srch F T q bay hz k (e + 1) ({ S with hp := S.hp.eraseIdx (best S.hp) }.expand F T q bay hz (S.nd.getD (S.hp.getD (best S.hp) It.nil).v Nd.nil) (S.hp.getD (best S.hp) It.nil).v)
def Rq.hz (q : Rq) (T : TS) : Int := min q.h ((T.base : Int) + 255 - q.t)
def Rq.states (q : Rq) (F : FS) (T : TS) : Int := (q.hz T + 1) * ((q.gl.length : Int) + 1) * (F.n : Int)
/-- The scratch space, cleared. -/
def PS.beg (F : FS) (T : TS) (q : Rq) (S : PS) : PS := ⟨[], [], if (S.ms : Int) < q.states F T then (q.states F T).toNat else S.ms, fun _ => false, S.st⟩
/-- The search as a whole. -/
def PS.search (F : FS) (T : TS) (q : Rq) (S : PS) : PS × Pl :=
  if rcode F T q ≠ 0 then (S, Pl.fail q.t (rcode F T q).toNat 0)
  else if T.sfree q = false then (S, Pl.fail q.t 3 0)
  else PS.srch F T q (F.park q.r).1 (q.hz T) q.m.toNat 0 ((S.beg F T q).reach F q.gl (F.park q.r).1 (q.hz T) q.s.toNat 0 0 (-1))

/-- What an answer meets. -/
structure Pok (q : Rq) (st : Nat → Int) (X : PS × Pl) : Prop where
  c : X.2.c < 8
  t : X.2.t = q.t
  x : 0 ≤ X.2.x ∧ X.2.x ≤ max q.m 0
  ln : X.2.path.length ≤ 256
  ok : X.2.c = 0 → 1 ≤ X.2.path.length ∧ X.2.done.length = q.gl.length ∧ 0 ≤ q.r
  no : X.2.c ≠ 0 → X.2.path = [] ∧ X.2.done = []
  ms : X.1.ms ≤ 4000000
  st : X.1.st = st
theorem Pok.fail {q : Rq} {S : PS} (c : Nat) (x : Int) (hc : c < 8) (hc0 : c ≠ 0) (hx : 0 ≤ x ∧ x ≤ max q.m 0) (hms : S.ms ≤ 4000000) : Pok q S.st (S, Pl.fail q.t c x) :=
  ⟨hc, rfl, hx, by simp [Pl.fail], fun h => absurd h hc0, fun _ => ⟨rfl, rfl⟩, hms, rfl⟩
theorem SIn.pop {F : FS} {T : TS} {q : Rq} {bay hz : Int} {st : Nat → Int} {B : Nat} {S : PS} (h : SIn F T q bay hz st B S) : SIn F T q bay hz st B { S with hp := S.hp.eraseIdx (best S.hp) } :=
  ⟨⟨h.s.ms, h.s.ms2, h.s.nd, Nat.le_trans (List.length_eraseIdx_le ..) h.s.hp, h.s.ok, fun x hx => h.s.hv x (List.mem_of_mem_eraseIdx hx)⟩, h.n, h.st⟩
/-- The node that Pop hands out. -/
theorem SIn.top {F : FS} {T : TS} {q : Rq} {bay hz : Int} {st : Nat → Int} {B : Nat} {S : PS} (h : SIn F T q bay hz st B S) (hne : S.hp ≠ []) : S.nd[(S.hp.getD (best S.hp) It.nil).v]? = some (S.nd.getD (S.hp.getD (best S.hp) It.nil).v Nd.nil) := by
  have h0 : 0 < S.hp.length := List.length_pos_iff.2 hne
  have hb := best_lt h0
  refine getD_of _ (h.s.hv _ ?_)
  exact List.mem_of_getElem? (getD_of It.nil hb)
theorem srch_ok {F : FS} {T : TS} {q : Rq} {bay hz : Int} {st : Nat → Int} (hF : FOk F) (hr : 0 ≤ q.r) (hhz : hz ≤ 255) : ∀ (k e B : Nat) (S : PS), SIn F T q bay hz st B S → (e + k : Int) ≤ q.m → Pok q st (PS.srch F T q bay hz k e S)
  | 0, e, B, S, h, hm => by
    rw [PS.srch]
    split
    · rw [← h.st]; exact Pok.fail 4 e (by omega) (by omega) ⟨by omega, by omega⟩ h.s.ms2
    · rw [← h.st]; exact Pok.fail (S := { S with hp := S.hp.eraseIdx (best S.hp) }) 5 e (by omega) (by omega) ⟨by omega, by omega⟩ h.s.ms2
  | k + 1, e, B, S, h, hm => by
    rw [PS.srch]
    split
    · rw [← h.st]; exact Pok.fail 4 e (by omega) (by omega) ⟨by omega, by omega⟩ h.s.ms2
    · rename_i hne
      have htop := h.top hne
      have hxo := h.s.ok _ (List.mem_of_getElem? htop)
      split
      · refine ⟨by simp [Pl.trace], rfl, ⟨by simp only [Pl.trace]; omega, by simp only [Pl.trace]; omega⟩, ?_, fun _ => ⟨?_, ?_, hr⟩, fun h => absurd rfl h, h.s.ms2, h.st⟩
        · simp only [Pl.trace, lst_len]; omega
        · simp only [Pl.trace, lst_len]; omega
        · simp only [Pl.trace, lst_len]
      · exact srch_ok hF hr hhz k (e + 1) (B + 400) _ (h.pop.expand hF _ _ htop) (by omega)
theorem beg_states {F : FS} {T : TS} {q : Rq} (hF : FOk F) (hg : F.gok q.gl) (hh : 0 ≤ q.hz T ∧ q.hz T ≤ 255) : 0 ≤ q.states F T ∧ q.states F T ≤ 1671168 := by
  unfold Rq.states
  have h1 := hg.1
  have h2 := hF.n
  have a : (q.hz T + 1) * ((q.gl.length : Int) + 1) ≤ 256 * 17 := Int.mul_le_mul (by omega) (by omega) (by omega) (by omega)
  have a0 : 0 ≤ (q.hz T + 1) * ((q.gl.length : Int) + 1) := Int.mul_nonneg (by omega) (by omega)
  exact ⟨Int.mul_nonneg a0 (by omega), Int.le_trans (Int.mul_le_mul a (by omega : (F.n : Int) ≤ 384) (by omega) (by omega)) (by omega)⟩
theorem beg_ms {F : FS} {T : TS} {q : Rq} {S : PS} (hst : 0 ≤ q.states F T ∧ q.states F T ≤ 1671168) (hms : S.ms ≤ 4000000) : q.states F T ≤ ((S.beg F T q).ms : Int) ∧ (S.beg F T q).ms ≤ 4000000 := by
  unfold PS.beg
  simp only
  split <;> omega
theorem rcode_ok {F : FS} {T : TS} {q : Rq} (h : rcode F T q = 0) : rq0 F T q ∧ F.gok q.gl := by
  unfold rcode at h
  split at h
  · rename_i h1
    exact ⟨h1, gcode_ok.1 h⟩
  · cases h
theorem rcode_is (F : FS) (T : TS) (q : Rq) : rcode F T q = 0 ∨ rcode F T q = 2 := by
  unfold rcode FS.gcode
  repeat (first | omega | split)
theorem park_in {F : FS} (hF : FOk F) {r : Int} (hr : 0 ≤ r ∧ r < (F.bays.length : Int)) : 0 ≤ (F.park r).1 ∧ (F.park r).1 < (F.n : Int) := by
  unfold FS.park
  rw [if_pos hr]
  simp only
  have hl : r.toNat < F.bays.length := by omega
  have : F.bays.getD r.toNat (-1) = F.bays[r.toNat] := by simp [List.getD_eq_getElem?_getD, hl]
  rw [this]
  exact hF.bay _ (List.getElem_mem hl)
theorem valid_in {F : FS} {c : Int} (h : F.valid c = true) : 0 ≤ c ∧ c < (F.n : Int) := by
  unfold FS.valid at h
  simp at h
  omega
theorem rok_of {F : FS} {T : TS} {q : Rq} (hF : FOk F) (h : rcode F T q = 0) : Rok F T q (F.park q.r).1 (q.hz T) := by
  obtain ⟨⟨h1, h2, h3, h4, h5⟩, h6⟩ := rcode_ok h
  refine ⟨h6, park_in hF h1, ?_, h1, valid_in h2, h3, h4, h5⟩
  unfold Rq.hz
  omega
theorem sin_beg {F : FS} {T : TS} {q : Rq} {S : PS} (hF : FOk F) (h : rcode F T q = 0) (hms : S.ms ≤ 4000000) : SIn F T q (F.park q.r).1 (q.hz T) S.st 1 ((S.beg F T q).reach F q.gl (F.park q.r).1 (q.hz T) q.s.toNat 0 0 (-1)) := by
  have hO := rok_of hF h
  have hst := beg_states hF hO.gok hO.hz
  have hm := beg_ms (S := S) hst hms
  have h0 : SIn F T q (F.park q.r).1 (q.hz T) S.st 0 (S.beg F T q) := ⟨⟨by have := hm.1; unfold Rq.states at this; exact this, hm.2, by simp [PS.beg], by simp [PS.beg], fun x hx => by simp [PS.beg] at hx, fun x hx => by simp [PS.beg] at hx⟩, fun i y hy => by simp [PS.beg] at hy, rfl⟩
  refine ⟨(h0.s.reach (bay := (F.park q.r).1) q.s.toNat 0 0 (-1) (by have := hO.s; omega) (Nat.zero_le _) ⟨by omega, by omega⟩).1, h0.n.reach _ _ _ _ (Or.inl rfl), (reach_st ..).trans h0.st⟩
theorem search_ok {F : FS} {T : TS} {q : Rq} {S : PS} (hF : FOk F) (hms : S.ms ≤ 4000000) : Pok q S.st (PS.search F T q S) := by
  unfold PS.search
  split
  · rename_i h
    have := rcode_is F T q
    exact Pok.fail _ 0 (by omega) (by omega) ⟨by omega, by omega⟩ hms
  · rename_i h
    split
    · exact Pok.fail 3 0 (by omega) (by omega) ⟨by omega, by omega⟩ hms
    · have h0 : rcode F T q = 0 := by omega
      have hO := rok_of hF h0
      exact srch_ok hF hO.r.1 hO.hz.2 _ 0 1 _ (sin_beg hF h0 hms) (by have := hO.m; omega)
end Go.Proofs.Qxb6500716a
