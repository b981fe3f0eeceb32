/-
  Plain: what Solve has gathered.
-/
import Derived.Test.Qxb6500716aSb
namespace Go.Proofs.Qxb6500716a
open Go.RowKit Go.Maps
set_option linter.unusedSimpArgs false
set_option linter.unusedVariables false
set_option maxRecDepth 20000
set_option maxHeartbeats 4000000
section
variable {F : FS} {T : TS} {q : Rq} {bay : Int} {H : Nat}
def Bef (off label cell i l c : Nat) : Prop := i < off ∨ (i = off ∧ (l < label ∨ (l = label ∧ c < cell)))
structure Svp (F : FS) (T : TS) (q : Rq) (bay : Int) (H : Nat) (R : Nat → Nat → Nat → Prop) (off label cell : Nat) : Prop where
  st : R 0 q.s.toNat 0
  so : ∀ i c l, R i c l → c < F.n ∧ l ≤ q.gl.length ∧ Rch F T q c i l
  co : ∀ i c l, R i c l → Bef off label cell i l c → T.arrd q bay ⟨c, i, l, -1⟩ = false ∧ ∀ c' o' l', Nxt F T q ⟨c, i, l, -1⟩ c' o' l' → o' ≤ H → R o' c' l'
theorem Svp.start (hs : q.s.toNat < F.n) : Svp F T q bay H (fun i c l => i = 0 ∧ c = q.s.toNat ∧ l = 0) 0 0 0 :=
  ⟨⟨rfl, rfl, rfl⟩, fun i c l h => by
    obtain ⟨rfl, rfl, rfl⟩ := h
    exact ⟨hs, Nat.zero_le _, 0, rfl, rfl, rfl⟩, fun i c l _ h => by
    unfold Bef at h
    omega⟩
theorem Svp.move {R : Nat → Nat → Nat → Prop} {off label cell off' label' cell' : Nat} (h : Svp F T q bay H R off label cell) (hm : ∀ i l c, R i c l → Bef off' label' cell' i l c → Bef off label cell i l c) : Svp F T q bay H R off' label' cell' :=
  ⟨h.st, h.so, fun i c l hr hb => h.co i c l hr (hm i l c hr hb)⟩
/-- A state that was not reached. -/
theorem Svp.pass {R : Nat → Nat → Nat → Prop} {off label cell : Nat} (h : Svp F T q bay H R off label cell) (hn : ¬ R off cell label) : Svp F T q bay H R off label (cell + 1) :=
  h.move (fun i l c hr hb => by
    unfold Bef at hb ⊢
    by_cases e : i = off ∧ l = label ∧ c = cell
    · obtain ⟨rfl, rfl, rfl⟩ := e
      exact absurd hr hn
    · omega)
theorem Svp.row {R : Nat → Nat → Nat → Prop} {off label n : Nat} (h : Svp F T q bay H R off label n) (hn : F.n ≤ n) : Svp F T q bay H R off (label + 1) 0 :=
  h.move (fun i l c hr hb => by
    have := (h.so i c l hr).1
    unfold Bef at hb ⊢
    omega)
theorem Svp.tick {R : Nat → Nat → Nat → Prop} {off label : Nat} (h : Svp F T q bay H R off label 0) (hl : q.gl.length < label) : Svp F T q bay H R (off + 1) 0 0 :=
  h.move (fun i l c hr hb => by
    have := (h.so i c l hr).2.1
    unfold Bef at hb ⊢
    omega)
/-- What the dwell at a goal has added. -/
def Dwd (T : TS) (q : Rq) (H : Nat) (R R2 : Nat → Nat → Nat → Prop) (off label cell : Nat) : Prop :=
  (R2 = R ∧ ∀ g, q.gl[label]? = some g → g.1 = (cell : Int) → T.stays q.r cell (q.t + off) 0 g.2.toNat = true → H < off + g.2.toNat) ∨
  ∃ g, q.gl[label]? = some g ∧ g.1 = (cell : Int) ∧ T.stays q.r cell (q.t + off) 0 g.2.toNat = true ∧ R2 = addR R (off + g.2.toNat) cell (label + 1)
theorem Svp.step (hF : FOk F) {R R2 R3 : Nat → Nat → Nat → Prop} {off label cell : Nat} (h : Svp F T q bay H R off label cell) (hr : R off cell label) (ha : T.arrd q bay ⟨cell, off, label, -1⟩ = false) (hd : Dwd T q H R R2 off label cell)
    (hn : (off = H ∧ R3 = R2) ∨ Nbd T q R2 R3 off cell label ((cell : Int) :: F.near cell)) : Svp F T q bay H R3 off label (cell + 1) := by
  obtain ⟨hc0, hl0, n0, hr0⟩ := h.so off cell label hr
  have h12 : ∀ i c l, R i c l → R2 i c l := fun i c l hx => by
    rcases hd with ⟨e, -⟩ | ⟨g, -, -, -, e⟩
    · rw [e]; exact hx
    · rw [e]; exact Or.inr hx
  have h23 : ∀ i c l, R2 i c l → R3 i c l := fun i c l hx => by
    rcases hn with ⟨-, e⟩ | hn
    · rw [e]; exact hx
    · exact hn.old i c l hx
  have new2 : ∀ i c l, R2 i c l → R i c l ∨ (∃ g, q.gl[label]? = some g ∧ g.1 = (cell : Int) ∧ T.stays q.r cell (q.t + off) 0 g.2.toNat = true ∧ i = off + g.2.toNat ∧ c = cell ∧ l = label + 1) := fun i c l hx => by
    rcases hd with ⟨e, -⟩ | ⟨g, e1, e2, e3, e⟩
    · rw [e] at hx; exact Or.inl hx
    · rw [e] at hx
      rcases hx with ⟨rfl, rfl, rfl⟩ | hx
      · exact Or.inr ⟨g, e1, e2, e3, rfl, rfl, rfl⟩
      · exact Or.inl hx
  have new3 : ∀ i c l, R3 i c l → R2 i c l ∨ (i = off + 1 ∧ l = label ∧ ((c : Int) = cell ∨ (c : Int) ∈ F.near cell) ∧ T.freeM q.r cell c (q.t + off) = true) := fun i c l hx => by
    rcases hn with ⟨-, e⟩ | hn
    · rw [e] at hx; exact Or.inl hx
    · rcases hn.new i c l hx with e | ⟨e1, e2, e3, e4⟩
      · exact Or.inl e
      · exact Or.inr ⟨e1, e2, List.mem_cons.1 e3, e4⟩
  refine ⟨h23 _ _ _ (h12 _ _ _ h.st), fun i c l hx => ?_, fun i c l hx hb => ?_⟩
  · rcases new3 i c l hx with e | ⟨rfl, rfl, e3, e4⟩
    · rcases new2 i c l e with e | ⟨g, e1, e2, e3, rfl, rfl, rfl⟩
      · exact h.so i c l e
      · exact ⟨hc0, (List.getElem?_eq_some_iff.1 e1).1, n0 + 1, ⟨c, off, label, -1⟩, hr0, Or.inl ⟨g, e1, e2, e3, rfl, rfl, rfl⟩⟩
    · have hnx : Nxt F T q ⟨cell, off, l, -1⟩ c (off + 1) l := Or.inr ⟨⟨e3.elim (fun e => Or.inl (by simp only; omega)) Or.inr, e4⟩, rfl, rfl⟩
      exact ⟨(hnx.bd hF hc0 hl0).1, hl0, n0 + 1, ⟨cell, off, l, -1⟩, hr0, hnx⟩
  · by_cases ecur : i = off ∧ l = label ∧ c = cell
    · obtain ⟨rfl, rfl, rfl⟩ := ecur
      refine ⟨ha, fun c' o' l' hnx ho => ?_⟩
      rcases hnx with ⟨g, e1, e2, e3, rfl, rfl, rfl⟩ | ⟨⟨e1, e2⟩, rfl, rfl⟩
      · simp only at e1 e2 e3 ho ⊢
        refine h23 _ _ _ ?_
        rcases hd with ⟨e, hno⟩ | ⟨g2, f1, f2, f3, e⟩
        · have := hno g e1 e2 e3
          omega
        · rw [e1] at f1
          obtain rfl := Option.some.inj f1
          rw [e]
          exact Or.inl ⟨rfl, rfl, rfl⟩
      · simp only at e1 e2 ho ⊢
        rcases hn with ⟨e, -⟩ | hn
        · omega
        · have := hn.all (c' : Int) (List.mem_cons.2 (e1.elim (fun e => Or.inl (by omega)) Or.inr)) e2
          rw [Int.toNat_natCast] at this
          exact this
    · have hb' : Bef off label cell i l c := by unfold Bef at hb ⊢; omega
      have hR : R i c l := by
        rcases new3 i c l hx with e | ⟨e1, e2, -, -⟩
        · rcases new2 i c l e with e | ⟨g, -, -, -, e1, e2, e3⟩
          · exact e
          · unfold Bef at hb'; omega
        · unfold Bef at hb'; omega
      obtain ⟨k1, k2⟩ := h.co i c l hR hb'
      exact ⟨k1, fun c' o' l' a b => h23 _ _ _ (h12 _ _ _ (k2 c' o' l' a b))⟩
/-- All that can be reached by now is gathered. -/
theorem Svp.all {R : Nat → Nat → Nat → Prop} {off : Nat} (h : Svp F T q bay H R off 0 0) (ho : off ≤ H + 1) : ∀ (n c o l : Nat), RchN F T q n c o l → o < off → R o c l
  | 0, c, o, l, hr, _ => by
    obtain ⟨rfl, rfl, rfl⟩ := hr
    exact h.st
  | n + 1, c, o, l, hr, hl => by
    obtain ⟨y, h1, h2⟩ := hr
    have hyo : y.o ≤ o := by
      rcases h2 with ⟨g, -, -, -, -, e, -⟩ | ⟨-, e, -⟩ <;> omega
    have h3 := Svp.all h ho n y.c y.o y.l h1 (by omega)
    have h4 : Nxt F T q ⟨y.c, y.o, y.l, -1⟩ c o l := h2
    exact (h.co _ _ _ h3 (Or.inl (by omega))).2 c o l h4 (by omega)
/-- What Solve answers, from a request that stands and a start that is free. -/
structure Solved (F : FS) (T : TS) (q : Rq) (bay : Int) (hz : Int) (code : Nat) (arr : Int) : Prop where
  ex : (code = 0 ∧ ∃ o : Nat, arr = q.t + o ∧ (o : Int) ≤ hz ∧ (∃ z : Nd, z.o = o ∧ Rch F T q z.c z.o z.l ∧ T.arrd q bay z = true) ∧ ∀ z : Nd, Rch F T q z.c z.o z.l → T.arrd q bay z = true → o ≤ z.o) ∨
    (code = 4 ∧ arr = 0 ∧ ∀ z : Nd, Rch F T q z.c z.o z.l → T.arrd q bay z = true → hz < (z.o : Int))
theorem Svp.found {R : Nat → Nat → Nat → Prop} {off label cell : Nat} {hz : Int} (h : Svp F T q bay H R off label cell) (hr : R off cell label) (ho : off ≤ H) (hz1 : (off : Int) ≤ hz) (ha : T.arrd q bay ⟨cell, off, label, -1⟩ = true) : Solved F T q bay hz 0 (q.t + off) := by
  have h0 : Svp F T q bay H R off 0 0 := h.move (fun i l c _ hb => by unfold Bef at hb ⊢; omega)
  refine ⟨Or.inl ⟨rfl, off, rfl, hz1, ⟨⟨cell, off, label, -1⟩, rfl, (h.so _ _ _ hr).2.2, ha⟩, fun z hz2 ha2 => ?_⟩⟩
  rcases Nat.lt_or_ge z.o off with h1 | h1
  · exfalso
    obtain ⟨n, hn⟩ := hz2
    have h2 := h0.all (by omega) n z.c z.o z.l hn h1
    have h3 := (h0.co _ _ _ h2 (Or.inl h1)).1
    rw [show T.arrd q bay ⟨z.c, z.o, z.l, -1⟩ = T.arrd q bay z from arrd_of rfl rfl rfl, ha2] at h3
    cases h3
  · exact h1
theorem Svp.none {R : Nat → Nat → Nat → Prop} {off : Nat} {hz : Int} (h : Svp F T q bay H R off 0 0) (ho : off ≤ H + 1) (hz1 : hz < (off : Int)) : Solved F T q bay hz 4 0 := by
  refine ⟨Or.inr ⟨rfl, rfl, fun z hz2 ha2 => ?_⟩⟩
  rcases Int.lt_or_le hz (z.o : Int) with h1 | h1
  · exact h1
  · exfalso
    obtain ⟨n, hn⟩ := hz2
    have h2 := h.all ho n z.c z.o z.l hn (by omega)
    have h3 := (h.co _ _ _ h2 (Or.inl (by omega))).1
    rw [show T.arrd q bay ⟨z.c, z.o, z.l, -1⟩ = T.arrd q bay z from arrd_of rfl rfl rfl, ha2] at h3
    cases h3
end
end Go.Proofs.Qxb6500716a
