/-
  The floor in memory, and while it is being laid.
-/
import Derived.Test.Qxb6500716aFp
import Derived.Test.Qxb6500716aTr
import Derived.ChangeKeysEq
namespace Go.Proofs.Qxb6500716a
open Go.RowKit Go.Maps
set_option linter.unusedSimpArgs false
set_option linter.unusedVariables false
set_option maxRecDepth 20000
set_option maxHeartbeats 4000000

theorem made1 (z : Value) (n i : Nat) (h : i < n) : (madeCells #[z] n)[i]? = some z := by
  simp [madeCells, h, Nat.mod_one]
theorem region_via {P : Program} {id : Nat} {l : Array Oper} {b : Bool} {Q : Exit → Act → World → Prop} {a : Act} {w : World} (R : Act → Act → World → Prop) (h : (Code.region id l b).wp P (fun x a' w' => x = .normal ∧ R a a' w') a w)
    (k : ∀ a' w', R a a' w' → Q .normal a' w') : (Code.region id l b).wp P Q a w :=
  Code.wp_mono (fun e a' w' ⟨h1, h2⟩ => by subst h1; exact k a' w' h2) h
theorem eq113 (w : World) (a b c d : Int) (x : Bool) (hx : (a = c ∧ b = d) ↔ x = true) : (Op.equalIn 10000 113 (.agg #[.int .i64 (a), .int .i64 (b)]) (.agg #[.int .i64 (c), .int .i64 (d)])).run Try.prog w = .ok x w := by
  obtain ⟨i, hi, -, hz1, -⟩ := info_parts (P := Try.prog) (e := 3) (z := .int .i64 (0)) (size := 1) (bytes := 8) (by kernel_rfl)
  rw [run_equalIn_array w 9999 _ _ Try.underlying113 hi]
  have h1 : Try.prog.cellsOf 3 = 1 := by kernel_rfl
  have e : ∀ u v : Int, (Op.equalIn 9999 3 (.int .i64 (u)) (.int .i64 (v))).run Try.prog w = .ok (u == v) w := fun u v => run_equalIn_int w 9998 3 .i64 .i64 u v Try.underlying3
  have q0 : ∀ (u v : Int), (part 3 #[.int .i64 (u), .int .i64 (v)] 0).run Try.prog w = .ok (.int .i64 (u)) w := fun u v => by simp [part, go_sem]
  have q1 : ∀ (u v : Int), (part 3 #[.int .i64 (u), .int .i64 (v)] 1).run Try.prog w = .ok (.int .i64 (v)) w := fun u v => by simp [part, go_sem]
  rw [show List.range 2 = [0, 1] from rfl, h1]
  by_cases g1 : a = c
  · by_cases g2 : b = d
    · have : x = true := hx.1 ⟨g1, g2⟩
      simp [Op.eqItems, e, q0, q1, g1, g2, this]
    · have : x = false := by
        cases x with
        | false => rfl
        | true => exact absurd (hx.2 rfl).2 g2
      have g3 : (b == d) = false := by simp [g2]
      simp [Op.eqItems, e, q0, q1, g1, g3, this]
  · have : x = false := by
      cases x with
      | false => rfl
      | true => exact absurd (hx.2 rfl).1 g1
    have g3 : (a == c) = false := by simp [g1]
    simp [Op.eqItems, e, q0, q1, g3, this]
def prow (l : List (Int × Int)) : List Value := l.flatMap fun p => [.int .i64 (p.1), .int .i64 (p.2)]
theorem prow_len (l : List (Int × Int)) : (prow l).length = l.length * 2 := by
  induction l with
  | nil => rfl
  | cons x l ih => simp [prow] at ih ⊢; omega
theorem prow_app (l m : List (Int × Int)) : prow (l ++ m) = prow l ++ prow m := by simp [prow]
theorem prow_at (l : List (Int × Int)) (k : Nat) (x : Int × Int) (h : l[k]? = some x) : (prow l)[k * 2]? = some (.int .i64 (x.1)) ∧ (prow l)[k * 2 + 1]? = some (.int .i64 (x.2)) := by
  induction l generalizing k with
  | nil => simp at h
  | cons y l ih =>
    cases k with
    | zero => simp at h; subst h; exact ⟨rfl, rfl⟩
    | succ k =>
      have := ih k (by simpa using h)
      rw [show (k + 1) * 2 = k * 2 + 2 by omega, show k * 2 + 2 + 1 = k * 2 + 1 + 2 by omega]
      exact this
def irow (l : List Int) : List Value := l.map fun x => .int .i64 (x)
theorem irow_len (l : List Int) : (irow l).length = l.length * 1 := by simp [irow]
theorem irow_app (l m : List Int) : irow (l ++ m) = irow l ++ irow m := by simp [irow]
theorem irow_at (l : List Int) (k : Nat) (x : Int) (h : l[k]? = some x) : (irow l)[k]? = some (.int .i64 (x)) := by simp [irow, h]
/-- A built list, to be read. -/
theorem LAt.ints {w : World} {lb lab : Nat → Nat} {tag : Nat} {v : Value} {l : List Int} (h : LAt w lb tag 1 v l.length (irow l)) (hl : l.length ≤ 1000) (hi : ∀ c, c ∈ l → I64 c) (hlab : ∀ b, lb b = tag → lab b = 0 ∨ 10 ≤ lab b) : Ints w lab v l := by
  obtain ⟨ao, cap, h1, h2, h3⟩ := h.ex
  refine ⟨⟨ao, cap, h1, h2⟩, by omega, hi, fun j c hj => ?_⟩
  have hj2 := (List.getElem?_eq_some_iff.1 hj).1
  obtain ⟨b, cap', e, -, e2, e3, e4⟩ := h.see (by omega)
  exact ⟨b, 0, _, _, e, e2, hlab b e3, by rw [Nat.zero_add]; exact e4 j _ (irow_at l j c hj)⟩
/-- A list of integers in memory is known by its cells. -/
def drow (f : Nat → Nat) (n : Nat) : List Int := (List.range n).map fun j => (f j : Int)
theorem drow_len (f : Nat → Nat) (n : Nat) : (drow f n).length = n := by simp [drow]
theorem drow_at (f : Nat → Nat) (n j : Nat) (h : j < n) : (drow f n)[j]? = some (f j : Int) := by simp [drow, h]
theorem Blk.ints {w : World} {lab : Nat → Nat} {b n : Nat} {f : Nat → Nat} (h : Blk w b n (fun j => .int .i64 (f j))) (hn : n ≤ 1000) (hf : ∀ j, f j ≤ 1048576) (hlab : lab b = 0 ∨ 10 ≤ lab b) : Ints w lab (.slice (some ⟨b, 0, none⟩) n n) (drow f n) := by
  refine ⟨⟨_, n, by rw [drow_len], by rw [drow_len]; omega⟩, by rw [drow_len]; omega, fun c hc => ?_, fun j c hj => ?_⟩
  · simp [drow] at hc
    obtain ⟨a, -, rfl⟩ := hc
    have := hf a
    exact ⟨by omega, by omega⟩
  · have hj2 := (List.getElem?_eq_some_iff.1 hj).1
    rw [drow_len] at hj2
    rw [drow_at f n j hj2] at hj
    simp at hj
    subst hj
    exact ⟨b, 0, n, n, rfl, h.lt, hlab, by rw [Nat.zero_add]; exact h.is j hj2⟩

/-- The floor in memory. -/
structure FAt (w : World) (lab : Nat → Nat) (fb : Nat) (F : FS) : Prop where
  ok : FOk F
  lb : lab fb = 0 ∨ 10 ≤ lab fb
  lt : fb < w.heap.size
  place : ∃ ao cap, w.cell? ⟨fb, 0, none⟩ = some (.slice ao F.n cap)
  bay : ∃ v, w.cell? ⟨fb, 1, none⟩ = some v ∧ Ints w lab v F.bays
  near : ∃ b, w.cell? ⟨fb, 2, none⟩ = some (.slice (some ⟨b, 0, none⟩) F.n F.n) ∧ b < w.heap.size ∧ (lab b = 0 ∨ 10 ≤ lab b) ∧ ∀ a, a < F.n → ∃ v, w.cell? ⟨b, a, none⟩ = some v ∧ Ints w lab v (F.near a)
  dist : ∃ b, w.cell? ⟨fb, 3, none⟩ = some (.slice (some ⟨b, 0, none⟩) F.n F.n) ∧ b < w.heap.size ∧ (lab b = 0 ∨ 10 ≤ lab b) ∧ ∀ a, a < F.n → ∃ v, w.cell? ⟨b, a, none⟩ = some v ∧ Ints w lab v (drow (F.dist a) F.n)
theorem FAt.keptL {w w' : World} {lab : Nat → Nat} {A : Nat → Prop} {fb : Nat} {F : FS} (h : FAt w lab fb F) (hk : KeptL lab A w w') (hA : ∀ x, A x → 0 < x ∧ x < 10) : FAt w' lab fb F := by
  have hc : ∀ b i, b < w.heap.size → (lab b = 0 ∨ 10 ≤ lab b) → w'.cell? ⟨b, i, none⟩ = w.cell? ⟨b, i, none⟩ := fun b i h1 h2 => hk.cell i h1 (fun hx => by have := hA _ hx; omega)
  obtain ⟨v, hb1, hb2⟩ := h.bay
  obtain ⟨b, hn1, hn2, hn3, hn4⟩ := h.near
  obtain ⟨d, hd1, hd2, hd3, hd4⟩ := h.dist
  refine ⟨h.ok, h.lb, Nat.lt_of_lt_of_le h.lt hk.size, ?_, ⟨v, by rw [hc _ _ h.lt h.lb]; exact hb1, hb2.keptL hk hA⟩, ⟨b, by rw [hc _ _ h.lt h.lb]; exact hn1, Nat.lt_of_lt_of_le hn2 hk.size, hn3, fun a ha => ?_⟩, ⟨d, by rw [hc _ _ h.lt h.lb]; exact hd1, Nat.lt_of_lt_of_le hd2 hk.size, hd3, fun a ha => ?_⟩⟩
  · rw [hc _ _ h.lt h.lb]; exact h.place
  · obtain ⟨v, h1, h2⟩ := hn4 a ha
    exact ⟨v, by rw [hc _ _ hn2 hn3]; exact h1, h2.keptL hk hA⟩
  · obtain ⟨v, h1, h2⟩ := hd4 a ha
    exact ⟨v, by rw [hc _ _ hd2 hd3]; exact h1, h2.keptL hk hA⟩
theorem Ints.relab {w : World} {lab lab' : Nat → Nat} {v : Value} {l : List Int} (h : Ints w lab v l) (hl : ∀ b, b < w.heap.size → (lab b = 0 ∨ 10 ≤ lab b) → (lab' b = 0 ∨ 10 ≤ lab' b)) : Ints w lab' v l := by
  refine ⟨h.ex, h.len, h.i64, fun j c hj => ?_⟩
  obtain ⟨b, a, n, cap, h1, h2, h3, h4⟩ := h.row j c hj
  exact ⟨b, a, n, cap, h1, h2, hl b h2 h3, h4⟩
theorem FAt.relab {w : World} {lab lab' : Nat → Nat} {fb : Nat} {F : FS} (h : FAt w lab fb F) (hl : ∀ b, b < w.heap.size → (lab b = 0 ∨ 10 ≤ lab b) → (lab' b = 0 ∨ 10 ≤ lab' b)) : FAt w lab' fb F := by
  obtain ⟨v, hb1, hb2⟩ := h.bay
  obtain ⟨b, hn1, hn2, hn3, hn4⟩ := h.near
  obtain ⟨d, hd1, hd2, hd3, hd4⟩ := h.dist
  refine ⟨h.ok, hl _ h.lt h.lb, h.lt, h.place, ⟨v, hb1, hb2.relab hl⟩, ⟨b, hn1, hn2, hl _ hn2 hn3, fun a ha => ?_⟩, ⟨d, hd1, hd2, hl _ hd2 hd3, fun a ha => ?_⟩⟩
  · obtain ⟨v, h1, h2⟩ := hn4 a ha; exact ⟨v, h1, h2.relab hl⟩
  · obtain ⟨v, h1, h2⟩ := hd4 a ha; exact ⟨v, h1, h2.relab hl⟩
theorem FAt.below {w w' : World} {lab : Nat → Nat} {fb : Nat} {F : FS} (h : FAt w lab fb F) (hb : Below w.heap.size w w') : FAt w' lab fb F := h.keptL (A := fun _ => False) (KeptL.of_below hb) (fun _ h => h.elim)

/-! while it is laid: labels 2 open, 3 isBay, 4 bayPlaces, 5 the floor, 6 places, 7 bays, 8 near, 9 dist, 1000 + a and 2000 + a their rows -/
def fc (c0 c1 c2 c3 : Value) : Nat → Value
  | 0 => c0
  | 1 => c1
  | 2 => c2
  | _ => c3
structure NwB (A P W H mo : Nat) (w wr : World) (lb : Nat → Nat) (bv : Value) (bl : List (Int × Int)) : Prop where
  op : ∃ m, m ≤ 1000 + bl.length ∧ BAt 113 wr mo m (pS (opnP A P W H bl))
  ib : BAt 113 wr (mo + 1) bl.length (pS fun r c => (r, c) ∈ bl)
  ls : LAt wr lb 4 2 bv bl.length (prow bl)
  l2 : lb mo = 2
  l3 : lb (mo + 1) = 3
  bel : Below mo w wr
theorem NwB.keptL {A P W H mo : Nat} {w wr w' : World} {lb lb' : Nat → Nat} {bv : Value} {bl : List (Int × Int)} {L : Nat → Prop} (h : NwB A P W H mo w wr lb bv bl) (hw : w.heap.size = mo) (hk : KeptL lb L wr w') (hl : ∀ k, k < wr.heap.size → lb' k = lb k) (hL : ∀ x, L x → 5 ≤ x) (h0 : ∀ k, k < mo → lb k = 0) : NwB A P W H mo w w' lb' bv bl := by
  obtain ⟨m, hm, ho⟩ := h.op
  have hb := h.bel
  refine ⟨⟨m, hm, ho.of_block (hk.block _ ho.lt (fun hx => by have := hL _ hx; rw [h.l2] at this; omega))⟩, h.ib.of_block (hk.block _ h.ib.lt (fun hx => by have := hL _ hx; rw [h.l3] at this; omega)), ?_, (hl _ ho.lt).trans h.l2, (hl _ h.ib.lt).trans h.l3, ?_⟩
  · exact h.ls.of hk.size (fun b h1 h2 => hk.block b h1 (fun hx => by have := hL _ hx; omega)) hl
  · exact ⟨hk.os.trans hb.os, hk.tape.trans hb.tape, hk.output.trans hb.output, Nat.le_trans hb.size hk.size, fun k hk' => (hk.block k (by have := hb.size; omega) (fun hx => by have := hL _ hx; rw [h0 k hk'] at this; omega)).trans (hb.block k hk')⟩
structure NwF (A P W H mo fb : Nat) (w wr : World) (lb : Nat → Nat) (bv : Value) (bl : List (Int × Int)) (c0 c1 c2 c3 : Value) : Prop where
  nb : NwB A P W H mo w wr lb bv bl
  l0 : ∀ k, k < mo → lb k = 0
  l5 : lb fb = 5
  bf : Blk wr fb 4 (fc c0 c1 c2 c3)
  hw : w.heap.size = mo
theorem NwF.keptL {A P W H mo fb : Nat} {w wr w' : World} {lb lb' : Nat → Nat} {bv : Value} {bl : List (Int × Int)} {c0 c1 c2 c3 : Value} {L : Nat → Prop} (h : NwF A P W H mo fb w wr lb bv bl c0 c1 c2 c3) (hk : KeptL lb L wr w') (hl : ∀ k, k < wr.heap.size → lb' k = lb k) (hL : ∀ x, L x → 6 ≤ x) : NwF A P W H mo fb w w' lb' bv bl c0 c1 c2 c3 := by
  have hm : mo < wr.heap.size := by have := h.nb.ib.lt; omega
  exact ⟨h.nb.keptL h.hw hk hl (fun x hx => by have := hL x hx; omega) h.l0, fun k hk' => (hl k (by omega)).trans (h.l0 k hk'), (hl _ h.bf.lt).trans h.l5, h.bf.keptL hk (fun hx => by have := hL _ hx; rw [h.l5] at this; omega), h.hw⟩
theorem NwF.below {A P W H mo fb : Nat} {w wr w' : World} {lb : Nat → Nat} {bv : Value} {bl : List (Int × Int)} {c0 c1 c2 c3 : Value} (h : NwF A P W H mo fb w wr lb bv bl c0 c1 c2 c3) (hb : Below wr.heap.size wr w') : NwF A P W H mo fb w w' lb bv bl c0 c1 c2 c3 := h.keptL (L := fun _ => False) (KeptL.of_below hb) (fun _ _ => rfl) (fun _ h => h.elim)
theorem NwF.set {A P W H mo fb : Nat} {w wr : World} {lb : Nat → Nat} {bv : Value} {bl : List (Int × Int)} {c0 c1 c2 c3 c0' c1' c2' c3' : Value} (h : NwF A P W H mo fb w wr lb bv bl c0 c1 c2 c3) (i : Nat) (hi : i < 4) (v : Value) (he : ∀ j, j < 4 → upd (fc c0 c1 c2 c3) i v j = fc c0' c1' c2' c3' j) : NwF A P W H mo fb w (wr.setCell ⟨fb, i, none⟩ v) lb bv bl c0' c1' c2' c3' := by
  have hk : KeptL lb (fun x => x = 5) wr (wr.setCell ⟨fb, i, none⟩ v) := (KeptL.refl _ _ _).set h.l5 v
  exact ⟨h.nb.keptL h.hw hk (fun _ _ => rfl) (fun x hx => by omega) h.l0, h.l0, h.l5, (h.bf.set i v hi).congr he, h.hw⟩
/-- The rows of near and dist. -/
structure NwD (N nb db : Nat) (wr : World) (lb : Nat → Nat) (nv : Nat → Value) (nl : Nat → List Int) (dr : Nat → Nat) (dn : Nat) (dv : Nat → Nat → Nat) : Prop where
  n : N ≤ 384
  l8 : lb nb = 8
  l9 : lb db = 9
  bn : Blk wr nb N nv
  rn : ∀ i, i < N → LAt wr lb (1000 + i) 1 (nv i) (nl i).length (irow (nl i))
  hdn : dn ≤ N
  bd : Blk wr db N (fun i => if i < dn then .slice (some ⟨dr i, 0, none⟩) N N else .slice none 0 0)
  rd : ∀ i, i < dn → lb (dr i) = 2000 + i ∧ Blk wr (dr i) N (fun j => .int .i64 (dv i j))
section
variable {N nb db : Nat} {wr w' : World} {lb lb' : Nat → Nat} {nv : Nat → Value} {nl : Nat → List Int} {dr : Nat → Nat} {dn : Nat} {dv : Nat → Nat → Nat} {L : Nat → Prop}
theorem NwD.keptL (h : NwD N nb db wr lb nv nl dr dn dv) (hk : KeptL lb L wr w') (hl : ∀ k, k < wr.heap.size → lb' k = lb k) (hL : ∀ x, L x → x < 8) : NwD N nb db w' lb' nv nl dr dn dv :=
  ⟨h.n, (hl _ h.bn.lt).trans h.l8, (hl _ h.bd.lt).trans h.l9, h.bn.keptL hk (fun hx => by have := hL _ hx; rw [h.l8] at this; omega), fun i hi => (h.rn i hi).of hk.size (fun b h1 h2 => hk.block b h1 (fun hx => by have := hL _ hx; omega)) hl, h.hdn, h.bd.keptL hk (fun hx => by have := hL _ hx; rw [h.l9] at this; omega), fun i hi => ⟨(hl _ (h.rd i hi).2.lt).trans (h.rd i hi).1, (h.rd i hi).2.keptL hk (fun hx => by have := hL _ hx; rw [(h.rd i hi).1] at this; omega)⟩⟩
theorem NwD.below (h : NwD N nb db wr lb nv nl dr dn dv) (hb : Below wr.heap.size wr w') : NwD N nb db w' lb nv nl dr dn dv := h.keptL (L := fun _ => False) (KeptL.of_below hb) (fun _ _ => rfl) (fun _ h => h.elim)
/-- A cell of a row of dist. -/
theorem NwD.setD (h : NwD N nb db wr lb nv nl dr dn dv) (a b x : Nat) (ha : a < dn) (hb : b < N) : NwD N nb db (wr.setCell ⟨dr a, b, none⟩ (.int .i64 (x))) lb nv nl dr dn (fun i j => if i = a ∧ j = b then x else dv i j) := by
  have hk : KeptL lb (fun y => y = 2000 + a) wr (wr.setCell ⟨dr a, b, none⟩ (.int .i64 (x))) := (KeptL.refl lb (fun y => y = 2000 + a) wr).set (h.rd a ha).1 _
  have hn := h.n
  have hdn := h.hdn
  refine ⟨h.n, h.l8, h.l9, h.bn.keptL hk (by rw [h.l8]; omega), fun i hi => (h.rn i hi).keptL hk (by omega), h.hdn, h.bd.keptL hk (by rw [h.l9]; omega), fun i hi => ⟨(h.rd i hi).1, ?_⟩⟩
  by_cases e : i = a
  · subst e
    refine ((h.rd i hi).2.set b _ hb).congr (fun j hj => ?_)
    unfold upd
    by_cases e2 : j = b
    · simp [e2]
    · simp [e2]
  · refine ((h.rd i hi).2.keptL hk (by rw [(h.rd i hi).1]; omega)).congr (fun j hj => ?_)
    simp [e]
theorem NwD.cong (h : NwD N nb db wr lb nv nl dr dn dv) {dv' : Nat → Nat → Nat} (he : ∀ i j, i < dn → j < N → dv i j = dv' i j) : NwD N nb db wr lb nv nl dr dn dv' :=
  { h with rd := fun i hi => ⟨(h.rd i hi).1, (h.rd i hi).2.congr (fun j hj => by rw [he i j hi hj])⟩ }
/-- A row of near has grown, and its head is stored. -/
theorem NwD.setN (h : NwD N nb db wr lb nv nl dr dn dv) (a : Nat) (ha : a < N) (v : Value) (l : List Int) (hk : KeptL lb (fun y => y = 1000 + a) wr w') (hl : ∀ k, k < wr.heap.size → lb' k = lb k) (hls : LAt w' lb' (1000 + a) 1 v l.length (irow l)) :
    NwD N nb db (w'.setCell ⟨nb, a, none⟩ v) lb' (upd nv a v) (upd nl a l) dr dn dv := by
  have hn := h.n
  have hdn := h.hdn
  have l8 : lb' nb = 8 := (hl _ h.bn.lt).trans h.l8
  have hk2 : KeptL lb' (fun y => y = 8) w' (w'.setCell ⟨nb, a, none⟩ v) := (KeptL.refl _ _ _).set l8 _
  have bn' := h.bn.keptL hk (by rw [h.l8]; omega)
  have bd' := h.bd.keptL hk (by rw [h.l9]; omega)
  have l9 : lb' db = 9 := (hl _ h.bd.lt).trans h.l9
  refine ⟨h.n, l8, l9, bn'.set a v ha, fun i hi => ?_, h.hdn, bd'.keptL hk2 (by rw [l9]; omega), fun i hi => ⟨(hl _ (h.rd i hi).2.lt).trans (h.rd i hi).1, ((h.rd i hi).2.keptL hk (by rw [(h.rd i hi).1]; omega)).keptL hk2 (by rw [hl _ (h.rd i hi).2.lt, (h.rd i hi).1]; omega)⟩⟩
  by_cases e : i = a
  · subst e
    rw [upd_at, upd_at]
    exact hls.keptL hk2 (by omega)
  · rw [upd_ne _ _ e, upd_ne _ _ e]
    exact ((h.rn i hi).of hk.size (fun b h1 h2 => hk.block b h1 (by rw [h2]; omega)) hl).keptL hk2 (by omega)
/-- A new row of dist. -/
theorem NwD.newD (h : NwD N nb db wr lb nv nl dr dn dv) (hdn' : dn < N) (e : TypeId) (Z : Array Value) (hZ : Z = madeCells #[.int .i64 (0)] (N * 1)) :
    NwD N nb db ((wr.setCell ⟨db, dn, none⟩ (.slice (some ⟨wr.heap.size, 0, none⟩) N N)).alloc (.cells Z e)) (upd lb wr.heap.size (2000 + dn)) nv nl (upd dr dn wr.heap.size) (dn + 1) (fun i j => if i = dn then 0 else dv i j) := by
  have hk : KeptL lb (fun y => y = 9) wr ((wr.setCell ⟨db, dn, none⟩ (.slice (some ⟨wr.heap.size, 0, none⟩) N N)).alloc (.cells Z e)) := ((KeptL.refl _ _ _).set h.l9 _).al _
  have hl : ∀ k, k < wr.heap.size → upd lb wr.heap.size (2000 + dn) k = lb k := fun k hk => upd_ne _ _ (by omega)
  refine ⟨h.n, (hl _ h.bn.lt).trans h.l8, (hl _ h.bd.lt).trans h.l9, h.bn.keptL hk (by rw [h.l8]; omega), fun i hi => (h.rn i hi).of hk.size (fun b h1 h2 => hk.block b h1 (by rw [h2]; omega)) hl, by omega, ?_, fun i hi => ?_⟩
  · refine ((h.bd.set dn _ hdn').below ((Below.rf _).al _)).congr (fun i hi => ?_)
    unfold upd
    by_cases e1 : i = dn
    · subst e1; simp
    · simp only [if_neg e1]
      by_cases e2 : i < dn
      · rw [if_pos e2, if_pos (by omega)]
      · rw [if_neg e2, if_neg (by omega)]
  · by_cases e1 : i = dn
    · subst e1
      rw [upd_at, upd_at]
      refine ⟨rfl, by simp, fun j hj => ?_, fun j hj => by simp [go_sem, ↓IntWalk.iteOmega]⟩
      have : Z[j]? = some (.int .i64 (0)) := by rw [hZ]; exact made1 _ _ _ (by omega)
      simp [go_sem, ↓IntWalk.iteOmega, this]
    · rw [upd_ne _ _ e1, hl _ (h.rd i (by omega)).2.lt]
      refine ⟨(h.rd i (by omega)).1, ((h.rd i (by omega)).2.keptL hk (by rw [(h.rd i (by omega)).1]; omega)).congr (fun j hj => by simp [e1])⟩
end
/-- Rounds of the shortest ways. -/
def mixd (v a b : Nat) (E : Nat → Nat → Nat) (x y : Nat) : Nat := if x < a ∨ (x = a ∧ y < b) then fw v E x y else E x y
theorem newF_end {A P W H mo fb N nb db : Nat} {w wr : World} {lb : Nat → Nat} {bv c0 c1 : Value} {bl : List (Int × Int)} {nv : Nat → Value} {dr : Nat → Nat} {po : Option Addr} {pc : Nat}
    (hF : NwF A P W H mo fb w wr lb bv bl (.slice po N pc) c1 (.slice (some ⟨nb, 0, none⟩) N N) (.slice (some ⟨db, 0, none⟩) N N)) (hok : FOk (FS.of A P W H bl)) (hN : N = (FS.of A P W H bl).n)
    (hb : LAt wr lb 7 1 c1 (FS.of A P W H bl).bays.length (irow (FS.of A P W H bl).bays)) (hD : NwD N nb db wr lb nv (FS.of A P W H bl).near dr N (FS.of A P W H bl).dist)
    (lab : Nat → Nat) (hl : ∀ k, w.heap.size ≤ k → lab k = 0) : FAt wr lab fb (FS.of A P W H bl) := by
  generalize FS.of A P W H bl = F at *
  subst hN
  have hn := hok.n
  have hge : ∀ b, 0 < lb b → lab b = 0 ∨ 10 ≤ lab b := fun b hb => Or.inl (hl b (by
    rcases Nat.lt_or_ge b mo with h | h
    · rw [hF.l0 b h] at hb; omega
    · rw [hF.hw]; exact h))
  refine ⟨hok, hge _ (by rw [hF.l5]; omega), hF.bf.lt, ⟨po, pc, hF.bf.is 0 (by omega)⟩, ⟨c1, hF.bf.is 1 (by omega), hb.ints (by have := hok.nb; omega) (fun c hc => by have := hok.bay c hc; exact ⟨by omega, by omega⟩) (fun b hb' => hge b (by omega))⟩, ⟨nb, hF.bf.is 2 (by omega), hD.bn.lt, hge _ (by rw [hD.l8]; omega), fun a ha => ⟨nv a, hD.bn.is a ha, (hD.rn a ha).ints (by have := hok.nearL a; omega) (fun c hc => by have := hok.near a c hc; exact ⟨by omega, by omega⟩) (fun b hb' => hge b (by omega))⟩⟩, ⟨db, hF.bf.is 3 (by omega), hD.bd.lt, hge _ (by rw [hD.l9]; omega), fun a ha => ?_⟩⟩
  refine ⟨_, hD.bd.is a ha, ?_⟩
  rw [if_pos ha]
  exact (hD.rd a ha).2.ints (by omega) (hok.le a) (hge _ (by rw [(hD.rd a ha).1]; omega))
def ndl (pl bl : List (Int × Int)) (N aa b : Nat) (x : Nat) : List Int := if x < aa then nearP pl bl x N else if x = aa then nearP pl bl aa b else []
def ddv (pl bl : List (Int × Int)) (aa b : Nat) (i j : Nat) : Nat := if i = aa then (if j < b then (if adjP pl bl aa j = true then 1 else 1048576) else 0) else dist0 pl bl i j
theorem ndl_no {pl bl : List (Int × Int)} {N aa b : Nat} (h : adjP pl bl aa b = false) : ndl pl bl N aa (b + 1) = ndl pl bl N aa b := by
  funext x
  unfold ndl
  rw [nearP, h]
  simp
theorem ndl_adj {pl bl : List (Int × Int)} {N aa b : Nat} (h : adjP pl bl aa b = true) : ndl pl bl N aa (b + 1) = upd (ndl pl bl N aa b) aa (nearP pl bl aa b ++ [(b : Int)]) := by
  funext x
  unfold ndl upd
  rw [nearP, h, if_pos rfl]
  by_cases g : x = aa
  · subst g; simp
  · simp [g]
theorem ddv_no {pl bl : List (Int × Int)} {aa b : Nat} (h : adjP pl bl aa b = false) (i j : Nat) : (if i = aa ∧ j = b then 1048576 else ddv pl bl aa b i j) = ddv pl bl aa (b + 1) i j := by
  unfold ddv
  by_cases g1 : i = aa
  · subst g1
    by_cases g2 : j = b
    · subst g2; simp [h]
    · have : (j < b + 1) ↔ j < b := by omega
      simp [g2, this]
  · simp [g1]
theorem ddv_adj {pl bl : List (Int × Int)} {aa b : Nat} (h : adjP pl bl aa b = true) (i j : Nat) : (if i = aa ∧ j = b then 1 else (if i = aa ∧ j = b then 1048576 else ddv pl bl aa b i j)) = ddv pl bl aa (b + 1) i j := by
  unfold ddv
  by_cases g1 : i = aa
  · subst g1
    by_cases g2 : j = b
    · subst g2; simp [h]
    · have : (j < b + 1) ↔ j < b := by omega
      simp [g2, this]
  · simp [g1]
theorem mixd_ab (v aa b : Nat) (E : Nat → Nat → Nat) : mixd v aa b E aa b = E aa b := by unfold mixd; rw [if_neg (by omega)]
section
variable {D0 : Nat → Nat → Nat} (h0 : ∀ a, D0 a a = 0) (h1 : ∀ a b, a ≠ b → 0 < D0 a b) (v aa b : Nat)
include h0 h1
theorem mixd_av : mixd v aa b (fwN D0 v) aa v = fwN D0 v aa v := by unfold mixd; split; exact fw_row h0 h1 v aa; rfl
theorem mixd_vb : mixd v aa b (fwN D0 v) v b = fwN D0 v v b := by unfold mixd; split; exact fw_col h0 h1 v b; rfl
end
theorem mixd_next (v aa b : Nat) (E : Nat → Nat → Nat) (i j : Nat) : (if i = aa ∧ j = b then fw v E aa b else mixd v aa b E i j) = mixd v aa (b + 1) E i j := by
  unfold mixd
  by_cases g : i = aa ∧ j = b
  · rw [if_pos g, if_pos (by omega), g.1, g.2]
  · rw [if_neg g]
    by_cases g2 : i < aa ∨ (i = aa ∧ j < b)
    · rw [if_pos g2, if_pos (by omega)]
    · rw [if_neg g2, if_neg (by omega)]
theorem mixd_row (v aa N : Nat) (E : Nat → Nat → Nat) (i j : Nat) (hj : j < N) : mixd v aa N E i j = mixd v (aa + 1) 0 E i j := by
  unfold mixd
  by_cases g2 : i < aa ∨ (i = aa ∧ j < N)
  · rw [if_pos g2, if_pos (by omega)]
  · rw [if_neg g2, if_neg (by omega)]
theorem mixd_all (v N : Nat) (E : Nat → Nat → Nat) (i j : Nat) (hi : i < N) : mixd v N 0 E i j = fw v E i j := by unfold mixd; rw [if_pos (Or.inl hi)]
theorem mixd_none (v : Nat) (E : Nat → Nat → Nat) (i j : Nat) : mixd v 0 0 E i j = E i j := by unfold mixd; rw [if_neg (by omega)]
theorem NwF.ge {A P W H mo fb : Nat} {w wr : World} {lb : Nat → Nat} {bv : Value} {bl : List (Int × Int)} {c0 c1 c2 c3 : Value} (h : NwF A P W H mo fb w wr lb bv bl c0 c1 c2 c3) : w.heap.size ≤ fb := by
  rw [h.hw]
  rcases Nat.lt_or_ge fb mo with h1 | h1
  · have := h.l0 fb h1; rw [h.l5] at this; omega
  · exact h1
end Go.Proofs.Qxb6500716a
