/-
  VerifyAgrees: what the law holds between two steps.
-/
import Derived.Test.Qxb6500716aVg
import Derived.Test.Qxb6500716aLo
import Derived.Test.Qxb6500716aOw
namespace Go.Proofs.Qxb6500716a
open Go.RowKit Go.Maps
set_option linter.unusedSimpArgs false
set_option linter.unusedVariables false
set_option maxRecDepth 20000
set_option maxHeartbeats 4000000
/-- A plan in memory. -/
structure Plx where
  c : Int
  t : Int
  x : Int
  pv : Value
  dv : Value
  path : List Int
  done : List Int
def Plx.pcs (p : Plx) : List Value := [.int .u8 p.c, .int .i64 (p.t), p.pv, p.dv, .int .i64 (p.x)]
structure PlG (w : World) (lab : Nat → Nat) (p : Plx) : Prop where
  ip : Ints w lab p.pv p.path
  id : Ints w lab p.dv p.done
  len : p.path.length ≤ 1000
  t : -4000000000 ≤ p.t ∧ p.t ≤ 4000000000
  dn : ∀ y, y ∈ p.done → -8000000000 ≤ y ∧ y ≤ 8000000000
def cellsL (L : List Plx) : List Value := L.flatMap Plx.pcs
theorem cellsL_len (L : List Plx) : (cellsL L).length = L.length * 5 := by
  unfold cellsL
  induction L with
  | nil => rfl
  | cons p L ih => simp [Plx.pcs, ih]; omega
theorem cellsL_at : ∀ (L : List Plx) (k : Nat) (p : Plx) (j : Nat) (u : Value), L[k]? = some p → p.pcs[j]? = some u → (cellsL L)[k * 5 + j]? = some u
  | [], k, p, j, u, h, _ => by simp at h
  | a :: L, 0, p, j, u, h, hj => by
    simp at h
    subst h
    have hl : j < a.pcs.length := (List.getElem?_eq_some_iff.1 hj).1
    show (a.pcs ++ cellsL L)[0 * 5 + j]? = some u
    rw [Nat.zero_mul, Nat.zero_add, List.getElem?_append_left hl]
    exact hj
  | a :: L, k + 1, p, j, u, h, hj => by
    have hl : a.pcs.length = 5 := rfl
    show (a.pcs ++ cellsL L)[(k + 1) * 5 + j]? = some u
    rw [List.getElem?_append_right (by rw [hl]; omega), hl, show (k + 1) * 5 + j - 5 = k * 5 + j by omega]
    exact cellsL_at L k p j u (by simpa using h) hj
theorem cellsL_app (L K : List Plx) : cellsL (L ++ K) = cellsL L ++ cellsL K := by unfold cellsL; simp
/-- The plans and the request that the law keeps. -/
structure Pn (w : World) (lab : Nat → Nat) (d rb : Nat) (D : Dk) (q : Rq) (gv v : Value) (L : List Plx) : Prop where
  v : (v = .slice none 0 0 ∧ L = []) ∨ ∃ b cap, v = .slice (some ⟨b, 0, none⟩) L.length cap ∧ L.length ≤ cap ∧ b < w.heap.size ∧ lab b = 1 ∧ b ≠ d ∧ ∀ (j : Nat) (u : Value), (cellsL L)[j]? = some u → w.cell? ⟨b, j, none⟩ = some u
  len : L.length ≤ 7
  rq : Blk w rb 6 (rq4 q gv)
  lr : lab rb = 1
  ne : rb ≠ d
  g : GAt w lab gv q.gl
  pl : ∀ p, p ∈ L → PlG w lab p
  i : RqI q
  ok : L ≠ [] → ∃ X, D.W = some X ∧ ∃ T, rcode X.F T q = 0 ∧ T.base ≤ X.T.base
section
variable {w w' : World} {lab lab' : Nat → Nat} {d rb : Nat} {D : Dk} {q : Rq} {gv v : Value} {L : List Plx}
theorem PlG.keptL {A : Nat → Prop} {p : Plx} (h : PlG w lab p) (hk : KeptL lab A w w') (hA : ∀ x, A x → 0 < x ∧ x < 10) : PlG w' lab p := { h with ip := h.ip.keptL hk hA, id := h.id.keptL hk hA }
theorem PlG.relab {p : Plx} (h : PlG w lab p) (hl : ∀ b, b < w.heap.size → lab' b = lab b) : PlG w lab' p := { h with ip := h.ip.relab (fun b hb h => by rw [hl b hb]; exact h), id := h.id.relab (fun b hb h => by rw [hl b hb]; exact h) }
theorem PlG.below {p : Plx} (h : PlG w lab p) (hb : Below w.heap.size w w') : PlG w' lab p := h.keptL (A := fun _ => False) (KeptL.of_below hb) (fun _ h => h.elim)
theorem Pn.relab (h : Pn w lab d rb D q gv v L) (hl : ∀ b, b < w.heap.size → lab' b = lab b) : Pn w lab' d rb D q gv v L := by
  refine { h with v := ?_, lr := (hl _ h.rq.lt).trans h.lr, g := h.g.relab (fun b hb h => by rw [hl b hb]; exact h), pl := fun p hp => (h.pl p hp).relab hl }
  rcases h.v with hv | ⟨b, cap, e1, e2, e3, e4, e5, e6⟩
  · exact Or.inl hv
  · exact Or.inr ⟨b, cap, e1, e2, e3, (hl b e3).trans e4, e5, e6⟩
theorem Pn.kd (h : Pn w lab d rb D q gv v L) (hk : KD lab d w w') : Pn w' lab d rb D q gv v L := by
  have hA : ∀ x, doL x → 0 < x ∧ x < 10 := fun x hx => by unfold doL at hx; omega
  refine { h with v := ?_, rq := h.rq.of_block hk.size (hk.o rb h.rq.lt h.lr h.ne), g := h.g.keptL hk.k hA, pl := fun p hp => (h.pl p hp).keptL hk.k hA }
  rcases h.v with hv | ⟨b, cap, e1, e2, e3, e4, e5, e6⟩
  · exact Or.inl hv
  · exact Or.inr ⟨b, cap, e1, e2, Nat.lt_of_lt_of_le e3 hk.size, e4, e5, fun j u hj => by rw [World.cell?_of_block (hk.o b e3 e4 e5)]; exact e6 j u hj⟩
theorem Pn.below (h : Pn w lab d rb D q gv v L) (hb : Below w.heap.size w w') : Pn w' lab d rb D q gv v L := h.kd ⟨KeptL.of_below hb, fun j hj _ _ => hb.block j hj⟩
/-- The plans are thrown away. -/
theorem Pn.nil (h : Pn w lab d rb D q gv v L) (D' : Dk) : Pn w lab d rb D' q gv (.slice none 0 0) [] :=
  { h with v := Or.inl ⟨rfl, rfl⟩, len := by simp, pl := fun p hp => by simp at hp, ok := fun h => absurd rfl h }
/-- A step that makes no world. -/
theorem Pn.step (h : Pn w lab d rb D q gv v L) (o : Opr) (h0 : o.K ≠ 0) : Pn w lab d rb (D.step o).1 q gv v L := by
  refine { h with ok := fun hL => ?_ }
  obtain ⟨X, hX, T, hT, hb⟩ := h.ok hL
  obtain ⟨Y, hY, hF, hB⟩ := step_on D o h0 X hX
  exact ⟨Y, hY, T, by rw [hF]; exact hT, Nat.le_trans hb hB⟩
theorem Pn.val (h : Pn w lab d rb D q gv v L) : ∃ ao cap, v = .slice ao L.length cap := by
  rcases h.v with ⟨h1, h2⟩ | ⟨b, cap, e1, -⟩
  · exact ⟨none, 0, by rw [h1, h2]; rfl⟩
  · exact ⟨_, cap, e1⟩
/-- A plan of the list, seen. -/
theorem Pn.see (h : Pn w lab d rb D q gv v L) {k : Nat} {p : Plx} (hk : L[k]? = some p) : ∃ b cap, v = .slice (some ⟨b, 0, none⟩) L.length cap ∧ L.length ≤ cap ∧ b < w.heap.size ∧ w.cell? ⟨b, k * 5, none⟩ = some (.int .u8 p.c) ∧ w.cell? ⟨b, k * 5 + 1, none⟩ = some (.int .i64 (p.t)) ∧ w.cell? ⟨b, k * 5 + 2, none⟩ = some p.pv ∧ w.cell? ⟨b, k * 5 + 3, none⟩ = some p.dv ∧ w.cell? ⟨b, k * 5 + 4, none⟩ = some (.int .i64 (p.x)) := by
  rcases h.v with ⟨_, hL⟩ | ⟨b, cap, e1, e2, e3, e4, e5, e6⟩
  · rw [hL] at hk
    simp at hk
  · exact ⟨b, cap, e1, e2, e3, e6 _ _ (cellsL_at L k p 0 _ hk rfl), e6 _ _ (cellsL_at L k p 1 _ hk rfl), e6 _ _ (cellsL_at L k p 2 _ hk rfl), e6 _ _ (cellsL_at L k p 3 _ hk rfl), e6 _ _ (cellsL_at L k p 4 _ hk rfl)⟩
end
end Go.Proofs.Qxb6500716a
