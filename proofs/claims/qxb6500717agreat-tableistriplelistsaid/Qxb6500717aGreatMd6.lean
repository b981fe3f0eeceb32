/-
  The model: Reserve.
-/
import Derived.Laws.AppendOwnNone
import Derived.Test.Qxb6500717aGreatMd5
namespace Go.Proofs.Qxb6500717aGreat
open Go.RowKit
set_option linter.unusedSimpArgs false
set_option linter.unusedVariables false
set_option maxRecDepth 20000
set_option maxHeartbeats 4000000

/-- A list: nil, or at the beginning of a block of some kind. -/
def LAz (w : World) (G : Nat → Prop) (v : Value) (n : Nat) (vs : List Value) : Prop :=
  (v = .slice none 0 0 ∧ n = 0) ∨ ∃ b cap, v = .slice (some ⟨b, 0, none⟩) n cap ∧ n ≤ cap ∧ G b ∧ b < w.heap.size ∧ ∀ i u, vs[i]? = some u → w.cell? ⟨b, i, none⟩ = some u
theorem LAz.lat {w : World} {G : Nat → Prop} {n : Nat} {v : Value} {vs : List Value} (h : LAz w G v n vs) : LAt w 0 v n vs := by
  rcases h with ⟨rfl, rfl⟩ | ⟨b, cap, h1, h2, h3, h4, h5⟩
  · exact ⟨none, 0, rfl, by omega, Or.inl rfl⟩
  · exact ⟨_, cap, h1, h2, Or.inr ⟨b, rfl, Nat.zero_le _, h4, h5⟩⟩
theorem LAz.of {w w' : World} {G : Nat → Prop} {n : Nat} {v : Value} {vs : List Value} (h : LAz w G v n vs) (hs : w.heap.size ≤ w'.heap.size) (hb : ∀ j, G j → j < w.heap.size → w'.heap[j]? = w.heap[j]?) : LAz w' G v n vs := by
  rcases h with h | ⟨b, cap, h1, h2, h4, h5, h6⟩
  · exact Or.inl h
  · exact Or.inr ⟨b, cap, h1, h2, h4, by omega, fun i u hu => by rw [World.cell?_of_block (hb b h4 h5)]; exact h6 i u hu⟩
theorem LAz.below {w w' : World} {G : Nat → Prop} {n : Nat} {v : Value} {vs : List Value} (h : LAz w G v n vs) (hb : Below w.heap.size w w') : LAz w' G v n vs := h.of hb.size (fun j _ hj => hb.block j hj)
theorem LAz.kept {w w' : World} {G : Nat → Prop} {m n : Nat} {v : Value} {vs : List Value} (h : LAz w G v n vs) (hm : ¬ G m) (hb : KeptBut m w w') : LAz w' G v n vs := h.of hb.size (fun j hj hl => hb.block j hl (fun e => hm (e ▸ hj)))
theorem LAz.mono {w : World} {G G' : Nat → Prop} {n : Nat} {v : Value} {vs : List Value} (h : LAz w G v n vs) (hg : ∀ j, j < w.heap.size → G j → G' j) : LAz w G' v n vs := by
  rcases h with h | ⟨b, cap, h1, h2, h4, h5, h6⟩
  · exact Or.inl h
  · exact Or.inr ⟨b, cap, h1, h2, hg b h5 h4, h5, h6⟩
theorem LAz.own {w : World} {G : Nat → Prop} {base n sz : Nat} {e : TypeId} {v : Value} {vs : List Value} (h : w.ownsRow base e sz v n vs) (hb : ∀ j, base ≤ j → G j) : LAz w G v n vs := by
  obtain ⟨h1, h2⟩ := h
  rcases h2 with ⟨h2, h3⟩ | ⟨g, cap, cur, hv, hg, hh, hnc, _, hsz, ht⟩
  · exact Or.inl ⟨h2, h3⟩
  · refine Or.inr ⟨g, cap, hv, hnc, hb g hg, (Array.getElem?_eq_some_iff.1 hh).1, fun i u hu => ?_⟩
    rw [cell_of_row w g i cur e (0, 0) hh, ← Array.getElem?_toList]
    rw [← ht, List.getElem?_take] at hu
    split at hu
    · exact hu
    · cases hu
theorem cell_kq {B : Nat} {w w' : World} (hB : Below B w w') {b i : Nat} (hb : b < B) {v : Value} (h : w.cell? ⟨b, i, none⟩ = some v) : w'.cell? ⟨b, i, none⟩ = some v := by
  rw [World.cell?_of_block (hB.block b hb)]; exact h
theorem froz_kq {B : Nat} {w w' : World} (hB : Below B w w') {b i : Nat} (hb : b < B) {v : Bool} (h : w.frozen? ⟨b, i, none⟩ = v) : w'.frozen? ⟨b, i, none⟩ = v := by
  rw [World.frozen?_of_block (hB.block b hb)]; exact h
theorem srow_one (l : List (Nat × Nat × Nat)) : ∀ u ∈ srow l, u.oneCell' = true := by
  intro u hu
  simp only [srow, List.mem_flatMap] at hu
  obtain ⟨x, _, hx⟩ := hu
  simp at hx
  rcases hx with rfl | rfl | rfl <;> rfl
theorem qrow_one (l : List (Nat × Nat × Nat × Nat)) : ∀ u ∈ qrow l, u.oneCell' = true := by
  intro u hu
  simp only [qrow, List.mem_flatMap] at hu
  obtain ⟨x, _, hx⟩ := hu
  simp at hx
  rcases hx with rfl | rfl | rfl | rfl <;> rfl
theorem LAz.val {w : World} {G : Nat → Prop} {n : Nat} {v : Value} {vs : List Value} (h : LAz w G v n vs) : ∃ ao cap, v = .slice ao n cap := by
  rcases h with ⟨rfl, rfl⟩ | ⟨b, cap, h1, _⟩
  · exact ⟨none, 0, rfl⟩
  · exact ⟨_, cap, h1⟩
theorem own_val {w : World} {base n sz : Nat} {e : TypeId} {v : Value} {vs : List Value} (h : w.ownsRow base e sz v n vs) : ∃ ao cap, v = .slice ao n cap := (LAz.own (G := fun _ => True) h (fun _ _ => trivial)).val
/-- The law for append, where what is appended may be nil. -/
theorem wp_appL {P : Program} {w : World} {ops : Array Oper} {rest : List Oper} {o : Oper} {a : Act} {Q : Exit → Act → World → Prop} (hgd : o.guard = none) (s x : Operand) (t : TypeId)
    (ho : o.op = .call { callee := .builtin .append, args := #[s, x], argTypes := #[t, t] })
    (base : Nat) (e : TypeId) (z : Value) (size bytes : Nat) (ht : P.underlying t = some (.slice e)) (hinfo : (P.info? e).map (fun i => (i.zero, i.size, i.bytes)) = some (some z, size, bytes))
    (hzs : z.cells.size = size) (hsz : 0 < size)
    (v : Value) (n : Nat) (xs : List Value) (hs : a.eval s = v) (hown : w.ownsRow base e size v n xs)
    (u : Value) (b2 : Nat → Prop) (m : Nat) (news : List Value) (hx : a.eval x = u) (hu : LAz w b2 u m news) (hl : news.length = m * size) (h1 : ∀ u ∈ news, u.oneCell' = true)
    (h63 : n + m ≤ 9223372036854775807) (hbytes : (n + m) * bytes ≤ 140737488355328) (hbase : base ≤ w.heap.size)
    (h : ∀ v' w', w'.ownsRow base e size v' (n + m) (xs ++ news) → Below base w w' → wpList P ops Q rest (a.put o.dst v') w') : wpList P ops Q (o :: rest) a w := by
  rcases hu with ⟨rfl, rfl⟩ | ⟨b, cap, rfl, _, _, _, hc⟩
  · obtain ⟨i, hi, -⟩ := info_parts hinfo
    obtain rfl : news = [] := List.eq_nil_of_length_eq_zero (by simpa using hl)
    refine wpList_append_own_none hgd s x t ho base e i size ht hi v n xs hs hown hx (h v w (by simpa using hown) (Below.refl _ _))
  · exact wp_app hgd s x t ho base e z size bytes ht hinfo hzs hsz v n xs hs hown b 0 m cap news hx hl (fun j u hj => by rw [Nat.zero_add]; exact hc j u hj) h1 h63 hbytes hbase h

/-- The rest of the model's cells, and where its lists may lie. -/
structure MV where
  v : Nat → Value
  G : Nat → Prop
/-- The model, all of its cells: those behind the table's are given. -/
structure MdX (w : World) (m : Nat) (S : MdS) (V : MV) : Prop where
  rd : MdR w m S
  fz : ∀ i, i < 11 → w.frozen? ⟨m, i, none⟩ = false
  cv : ∀ i, 7 ≤ i → i < 11 → w.cell? ⟨m, i, none⟩ = some (V.v i)
  z5 : ∃ v, w.cell? ⟨m, 5, none⟩ = some v ∧ LAz w V.G v S.tr.length (srow S.tr)
  z6 : ∃ v, w.cell? ⟨m, 6, none⟩ = some v ∧ LAz w V.G v S.sp.length (qrow S.sp)
  gm : ¬ V.G m
  gf : ∀ j, w.heap.size ≤ j → V.G j
section
variable {w w' : World} {m : Nat} {S : MdS} {V : MV}
theorem MdX.below (h : MdX w m S V) (hb : Below w.heap.size w w') : MdX w' m S V := by
  obtain ⟨v5, a5, b5⟩ := h.z5
  obtain ⟨v6, a6, b6⟩ := h.z6
  have e := hb.block m h.rd.lt
  exact ⟨h.rd.below hb, fun i hi => (World.frozen?_of_block e).trans (h.fz i hi), fun i h1 h2 => (World.cell?_of_block e).trans (h.cv i h1 h2), ⟨v5, (World.cell?_of_block e).trans a5, b5.below hb⟩, ⟨v6, (World.cell?_of_block e).trans a6, b6.below hb⟩, h.gm, fun j hj => h.gf j (Nat.le_trans hb.size hj)⟩
theorem setoth (a : Nat) (v : Value) : ∀ i, i ≠ a → (w.setCell ⟨m, a, none⟩ v).cell? ⟨m, i, none⟩ = w.cell? ⟨m, i, none⟩ := fun i hi => World.cell?_setCell_other _ _ _ _ (fun e => hi (by have := congrArg Addr.off e; simpa using this.symm))
/-- The list of triples is replaced. -/
theorem MdX.setT (h : MdX w m S V) {v : Value} {tr : List (Nat × Nat × Nat)} (hl : LAz w V.G v tr.length (srow tr)) (hb : tr.length ≤ 3000 ∧ ∀ x, x ∈ tr → x.1 < 6 ∧ x.2.1 < 150 ∧ x.2.2 ≤ 2000000000) : MdX (w.setCell ⟨m, 5, none⟩ v) m { S with tr := tr } V := by
  have kb : KeptBut m w (w.setCell ⟨m, 5, none⟩ v) := (KeptBut.refl m w).set' _ _
  have oth := setoth (w := w) (m := m) 5 v
  obtain ⟨v5, a5, b5⟩ := h.z5
  obtain ⟨v6, a6, b6⟩ := h.z6
  have c5 := World.cell?_setCell_same w ⟨m, 5, none⟩ v a5
  exact ⟨⟨by simpa using h.rd.lt, (oth 0 (by omega)).trans h.rd.c0, (oth 1 (by omega)).trans h.rd.c1, (oth 2 (by omega)).trans h.rd.c2, (oth 3 (by omega)).trans h.rd.c3, (oth 4 (by omega)).trans h.rd.c4, ⟨v, c5, (hl.kept h.gm kb).lat⟩, ⟨v6, (oth 6 (by omega)).trans a6, (b6.kept h.gm kb).lat⟩, h.rd.bn, hb, h.rd.bs⟩, fun i hi => by rw [World.frozen?_setCell]; exact h.fz i hi, fun i h1 h2 => (oth i (by omega)).trans (h.cv i h1 h2), ⟨v, c5, hl.kept h.gm kb⟩, ⟨v6, (oth 6 (by omega)).trans a6, b6.kept h.gm kb⟩, h.gm, fun j hj => h.gf j (by simpa using hj)⟩
/-- The list of spans is replaced. -/
theorem MdX.setP (h : MdX w m S V) {v : Value} {sp : List (Nat × Nat × Nat × Nat)} (hl : LAz w V.G v sp.length (qrow sp)) (hb : sp.length ≤ 3000 ∧ ∀ x, x ∈ sp → x.1 < 6 ∧ x.2.1 < 150 ∧ x.2.2.1 ≤ 2000000000 ∧ x.2.2.2 ≤ 1099511627776) : MdX (w.setCell ⟨m, 6, none⟩ v) m { S with sp := sp } V := by
  have kb : KeptBut m w (w.setCell ⟨m, 6, none⟩ v) := (KeptBut.refl m w).set' _ _
  have oth := setoth (w := w) (m := m) 6 v
  obtain ⟨v5, a5, b5⟩ := h.z5
  obtain ⟨v6, a6, b6⟩ := h.z6
  have c6 := World.cell?_setCell_same w ⟨m, 6, none⟩ v a6
  exact ⟨⟨by simpa using h.rd.lt, (oth 0 (by omega)).trans h.rd.c0, (oth 1 (by omega)).trans h.rd.c1, (oth 2 (by omega)).trans h.rd.c2, (oth 3 (by omega)).trans h.rd.c3, (oth 4 (by omega)).trans h.rd.c4, ⟨v5, (oth 5 (by omega)).trans a5, (b5.kept h.gm kb).lat⟩, ⟨v, c6, (hl.kept h.gm kb).lat⟩, h.rd.bn, h.rd.bt, hb⟩, fun i hi => by rw [World.frozen?_setCell]; exact h.fz i hi, fun i h1 h2 => (oth i (by omega)).trans (h.cv i h1 h2), ⟨v5, (oth 5 (by omega)).trans a5, b5.kept h.gm kb⟩, ⟨v, c6, hl.kept h.gm kb⟩, h.gm, fun j hj => h.gf j (by simpa using hj)⟩
end
def MdS.add (S : MdS) (r c t : Nat) : MdS := { S with tr := S.tr ++ [(r, c, t)] }
/-- What the model's Reserve answers and leaves. -/
def MdS.reserve (S : MdS) (r c t : Int) : Int × MdS :=
  if S.place r c t ≠ 0 then (S.place r c t, S)
  else if S.at r.toNat t ≠ -1 then (5, S)
  else if S.hold c t ≠ -1 then (6, S)
  else if ((S.add r.toNat c.toNat t.toNat).swapAt (t - 1) || (S.add r.toNat c.toNat t.toNat).swapAt t) = true then (7, S)
  else if S.cap < S.tr.length + 1 + S.sp.length then (8, S)
  else (0, S.add r.toNat c.toNat t.toNat)
end Go.Proofs.Qxb6500717aGreat
