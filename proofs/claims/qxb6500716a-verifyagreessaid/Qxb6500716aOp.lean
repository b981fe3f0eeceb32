/-
  VerifyAgrees: the list of plans while it grows.
-/
import Derived.Test.Qxb6500716aVh
import Derived.Test.Qxb6500716aTh
namespace Go.Proofs.Qxb6500716a
open Go.RowKit Go.Maps
set_option linter.unusedSimpArgs false
set_option linter.unusedVariables false
set_option maxRecDepth 20000
set_option maxHeartbeats 4000000
theorem Ow.ints2 {w : World} {base : Nat} {v : Value} {l : List Int} (h : Ow w base v l) {lab : Nat → Nat} (hl : ∀ g, v.ownBlock = some g → lab g = 0) (hi : ∀ c, c ∈ l → I64 c) (hn : l.length ≤ 1000000) : Ints w lab v l := by
  have h1 := h.ints (lab := fun _ => 0) (fun _ _ => rfl) hi hn
  refine ⟨h1.ex, h1.len, h1.i64, fun j c hj => ?_⟩
  have hjl : j < l.length := (List.getElem?_eq_some_iff.1 hj).1
  obtain ⟨g, cap, hv, hnc, hg, hlt, hc, -⟩ := h.see (by omega)
  refine ⟨g, 0, l.length, cap, hv, hlt, Or.inl (hl g (by rw [hv]; rfl)), ?_⟩
  rw [Nat.zero_add, hc j hjl, List.getD_eq_getElem?_getD, hj]
  rfl
/-- A tampered plan, in blocks of its own. -/
structure Tp (w : World) (base : Nat) (p : Plx) : Prop where
  op : Ow w base p.pv p.path
  od : Ow w base p.dv p.done
  len : p.path.length ≤ 1000
  i64 : ∀ y, y ∈ p.path → I64 y
  t : -4000000000 ≤ p.t ∧ p.t ≤ 4000000000
  dl : p.done.length ≤ 1000000
  dn : ∀ y, y ∈ p.done → -8000000000 ≤ y ∧ y ≤ 8000000000
theorem Tp.of_block {w w' : World} {base : Nat} {p : Plx} (h : Tp w base p) (h1 : ∀ g, p.pv.ownBlock = some g → w'.heap[g]? = w.heap[g]?) (h2 : ∀ g, p.dv.ownBlock = some g → w'.heap[g]? = w.heap[g]?) : Tp w' base p := { h with op := h.op.of_block h1, od := h.od.of_block h2 }
theorem Tp.below {w w' : World} {base : Nat} {p : Plx} (h : Tp w base p) (hb : Below w.heap.size w w') : Tp w' base p := { h with op := h.op.below hb, od := h.od.below hb }
theorem Tp.low {w : World} {base base' : Nat} {p : Plx} (h : Tp w base p) (hb : base' ≤ base) : Tp w base' p := { h with op := h.op.low hb, od := h.od.low hb }
/-- The list of plans: the first one is old, the others are tampered. -/
structure OP (wA w : World) (v : Value) (p0 : Plx) (L : List Plx) (lo : Nat → Nat) : Prop where
  bl : Below wA.heap.size wA w
  lst : LAt w lo 1 5 v (L.length + 1) (cellsL (p0 :: L))
  oo : ∀ b, b < wA.heap.size → lo b ≠ 1
  tp : ∀ p, p ∈ L → Tp w wA.heap.size p ∧ (∀ g, p.pv.ownBlock = some g → lo g ≠ 1) ∧ ∀ g, p.dv.ownBlock = some g → lo g ≠ 1
def OPX (wA w : World) (v : Value) (p0 : Plx) (k : Nat) : Prop := ∃ L lo, L.length = k ∧ OP wA w v p0 L lo
theorem OPX.bl {wA w : World} {v : Value} {p0 : Plx} {k : Nat} (h : OPX wA w v p0 k) : Below wA.heap.size wA w := by
  obtain ⟨L, lo, -, h⟩ := h
  exact h.bl
/-- One more plan. -/
theorem OP.app {wA wr w w' : World} {v v' : Value} {p0 p : Plx} {L : List Plx} {lo lab' : Nat → Nat} (h : OP wA wr v p0 L lo) (hb : Below wr.heap.size wr w) (hp : Tp w wr.heap.size p)
    (hl : LAt w' lab' 1 5 v' (L.length + 1 + 1) (cellsL (p0 :: L) ++ p.pcs)) (hlb : ∀ k, k < w.heap.size → lab' k = (if k < wr.heap.size then lo k else 0)) (hk : KeptL (fun b => if b < wr.heap.size then lo b else 0) (fun y => y = 1) w w') : OP wA w' v' p0 (L ++ [p]) lab' := by
  have hsz : wA.heap.size ≤ wr.heap.size := h.bl.size
  have hs2 : wr.heap.size ≤ w.heap.size := hb.size
  have hkb : ∀ g, g < w.heap.size → (if g < wr.heap.size then lo g else 0) ≠ 1 → w'.heap[g]? = w.heap[g]? := fun g hg hn => hk.block g hg hn
  refine ⟨?_, ?_, fun b hb' => ?_, fun x hx => ?_⟩
  · refine (h.bl.trans (hb.mono hsz)).trans ⟨hk.os, hk.tape, hk.output, hk.size, fun b hb' => hkb b (by omega) ?_⟩
    rw [if_pos (by omega)]
    exact h.oo b hb'
  · have e : cellsL (p0 :: (L ++ [p])) = cellsL (p0 :: L) ++ p.pcs := by
      rw [← List.cons_append, cellsL_app]
      simp [cellsL]
    rw [e, List.length_append]
    exact hl
  · rw [hlb b (by omega), if_pos (by omega)]
    exact h.oo b hb'
  · rcases List.mem_append.1 hx with hx | hx
    · obtain ⟨t1, t2, t3⟩ := h.tp x hx
      have q1 : ∀ g, x.pv.ownBlock = some g → g < wr.heap.size := fun g hg => (t1.op.lt hg).2
      have q2 : ∀ g, x.dv.ownBlock = some g → g < wr.heap.size := fun g hg => (t1.od.lt hg).2
      refine ⟨t1.of_block (fun g hg => ?_) (fun g hg => ?_), fun g hg => ?_, fun g hg => ?_⟩
      · have := q1 g hg
        rw [hkb g (by omega) (by rw [if_pos this]; exact t2 g hg), hb.block g this]
      · have := q2 g hg
        rw [hkb g (by omega) (by rw [if_pos this]; exact t3 g hg), hb.block g this]
      · have := q1 g hg
        rw [hlb g (by omega), if_pos this]
        exact t2 g hg
      · have := q2 g hg
        rw [hlb g (by omega), if_pos this]
        exact t3 g hg
    · simp only [List.mem_singleton] at hx
      subst hx
      have q1 : ∀ g, x.pv.ownBlock = some g → wr.heap.size ≤ g ∧ g < w.heap.size := fun g hg => hp.op.lt hg
      have q2 : ∀ g, x.dv.ownBlock = some g → wr.heap.size ≤ g ∧ g < w.heap.size := fun g hg => hp.od.lt hg
      refine ⟨(hp.of_block (fun g hg => ?_) (fun g hg => ?_)).low hsz, fun g hg => ?_, fun g hg => ?_⟩
      · have := q1 g hg
        exact hkb g (by omega) (by rw [if_neg (by omega)]; omega)
      · have := q2 g hg
        exact hkb g (by omega) (by rw [if_neg (by omega)]; omega)
      · have := q1 g hg
        rw [hlb g (by omega), if_neg (by omega)]
        omega
      · have := q2 g hg
        rw [hlb g (by omega), if_neg (by omega)]
        omega
/-- 'append(plans, p)' in a region. -/
theorem step_pl {ops : Array Oper} {o : Oper} {a : Act} {K : Act → World → Prop} {Q : Exit → Act → World → Prop} {E : Prop} (hgd : o.guard = none) (s x : Operand) (z : Value) (bytes : Nat)
    (ho : o.op = .call { callee := .builtin .append, args := #[s, x], argTypes := #[77, 77] })
    (ht : Try.prog.underlying 77 = some (.slice 34)) (hinfo : (Try.prog.info? 34).map (fun i => (i.zero, i.size, i.bytes)) = some (some z, 5, bytes)) (hzs : z.cells.size = 5)
    {wA wr w : World} {v : Value} {p0 p : Plx} {k : Nat} (hO : OPX wA wr v p0 k) (hb : Below wr.heap.size wr w) (hp : Tp w wr.heap.size p) (hs : a.eval s = v) (hkb : (k + 2) * bytes ≤ 140737488355328) (hk2 : k + 2 ≤ 140737488355328)
    (b2 : Nat) (hx : a.eval x = .slice (some ⟨b2, 0, none⟩) 1 1) (hnews : ∀ (j : Nat) u, p.pcs[j]? = some u → w.cell? ⟨b2, j, none⟩ = some u) (hone : ∀ u ∈ p.pcs, u.oneCell' = true)
    (h : ∀ v' w', OPX wA w' v' p0 (k + 1) → Below wA.heap.size wA w' → K (a.put o.dst v') w') : if Region.wanted o (yielded ops a.tmps) = true then Oper.wp Try.prog o a w K Q else E := by
  have hw : Region.wanted o (yielded ops a.tmps) = true := by simp [Region.wanted, hgd]
  rw [if_pos hw]
  obtain ⟨L, lo, rfl, hL⟩ := hO
  have hl1 : LAt w (fun b => if b < wr.heap.size then lo b else 0) 1 5 v (L.length + 1) (cellsL (p0 :: L)) := (hL.lst.relab (fun b hb => if_pos hb)).below hb
  refine wp_ls s x 77 34 z 5 bytes ho ht hinfo hzs (by omega) _ 1 v (L.length + 1) _ hs hl1 b2 1 1 p.pcs (by omega) hkb hk2 hx rfl hnews hone ?_
  intro v' w' lab' h1 h2 h3
  have := hL.app hb hp h1 h2 h3
  exact h v' w' ⟨L ++ [p], lab', by simp, this⟩ this.bl
/-- At the end: what the law holds. -/
theorem OPX.pn {wA w : World} {v gv : Value} {p0 : Plx} {k d rb : Nat} {lab : Nat → Nat} {D : Dk} {q : Rq} (h : OPX wA w v p0 k) (hk : k ≤ 6) (hp : PlG wA lab p0) (hrq : Blk wA rb 6 (rq4 q gv)) (hlr : lab rb = 1) (hne : rb ≠ d) (hd : d < wA.heap.size) (hg : GAt wA lab gv q.gl) (hi : RqI q) (hok : ∃ X, D.W = some X ∧ ∃ T, rcode X.F T q = 0 ∧ T.base ≤ X.T.base) :
    ∃ (lab' : Nat → Nat) (L : List Plx), (∀ b, b < wA.heap.size → lab' b = lab b) ∧ Pn w lab' d rb D q gv v L ∧ L.length = k + 1 := by
  obtain ⟨L, lo, rfl, hO⟩ := h
  have hl : ∀ b, b < wA.heap.size → (fun b => if b < wA.heap.size then lab b else if lo b = 1 then 1 else 0) b = lab b := fun b hb => if_pos hb
  refine ⟨fun b => if b < wA.heap.size then lab b else if lo b = 1 then 1 else 0, p0 :: L, hl, ?_, rfl⟩
  refine ⟨Or.inr ?_, by simp; omega, hrq.below hO.bl, (hl _ hrq.lt).trans hlr, hne, (hg.relab (fun b hb h => by rw [← hl b hb] at h; exact h)).below hO.bl, fun p hp' => ?_, hi, fun _ => hok⟩
  · obtain ⟨b, cap, e1, e2, e3, e4, e5⟩ := hO.lst.see (by omega)
    have hbA : ¬ b < wA.heap.size := fun h => hO.oo b h e4
    exact ⟨b, cap, e1, e2, e3, by simp [hbA, e4], by omega, e5⟩
  · rcases List.mem_cons.1 hp' with rfl | hp'
    · exact (hp.relab hl).below hO.bl
    · obtain ⟨t1, t2, t3⟩ := hO.tp p hp'
      have q1 : ∀ g, p.pv.ownBlock = some g → (fun b => if b < wA.heap.size then lab b else if lo b = 1 then 1 else 0) g = 0 := fun g hg => by
        have := (t1.op.lt hg).1
        simp only [if_neg (by omega : ¬ g < wA.heap.size), if_neg (t2 g hg)]
      have q2 : ∀ g, p.dv.ownBlock = some g → (fun b => if b < wA.heap.size then lab b else if lo b = 1 then 1 else 0) g = 0 := fun g hg => by
        have := (t1.od.lt hg).1
        simp only [if_neg (by omega : ¬ g < wA.heap.size), if_neg (t3 g hg)]
      exact ⟨t1.op.ints2 q1 t1.i64 (by have := t1.len; omega), t1.od.ints2 q2 (fun y hy => by have := t1.dn y hy; unfold I64; omega) t1.dl, t1.len, t1.t, t1.dn⟩
end Go.Proofs.Qxb6500716a
