/-
  The table in memory, and what is asked of it, plain.
-/
import Derived.Test.Qxb6500717aGreatPad
import Derived.Test.Qxb6500717aGreatReg
import Derived.Test.Qxb6500717aGreatProg
import Derived.Test.Qxb6500717aGreatChecked
namespace Go.Proofs.Qxb6500717aGreat
open Go.RowKit
set_option linter.unusedSimpArgs false
set_option linter.unusedVariables false

theorem and255 (t : Nat) (ht : t ≤ 2000000000) : bits BinOp.and IntKind.i64 (t : Int) 255 = ((t % 256 : Nat) : Int) := by
  have h1 : (BitVec.ofInt 64 (t : Int)).toNat = t := by
    rw [BitVec.ofInt_natCast, BitVec.toNat_ofNat]; exact Nat.mod_eq_of_lt (by omega)
  have h2 : (BitVec.ofInt 64 (255 : Int)).toNat = 255 := by decide
  have h3 : t &&& 255 = t % 256 := Nat.and_two_pow_sub_one_eq_mod t 8
  show IntKind.i64.wrap ((BitVec.ofInt 64 (t : Int) &&& BitVec.ofInt 64 (255 : Int)).toNat : Int) = _
  rw [BitVec.toNat_and, h1, h2, h3]
  simp [IntKind.wrap, IntKind.bits, IntKind.signed]
  omega

/-- Block b has n cells that may be written, holding f. -/
structure Blk (w : World) (b n : Nat) (f : Nat → Value) : Prop where
  lt : b < w.heap.size
  is : ∀ i, i < n → w.cell? ⟨b, i, none⟩ = some (f i)
  fz : ∀ i, i < n → w.frozen? ⟨b, i, none⟩ = false

/-- f with v at i. -/
def upd {α : Type} (f : Nat → α) (i : Nat) (v : α) : Nat → α := fun j => if j = i then v else f j
theorem upd_at {α : Type} (f : Nat → α) (i : Nat) (v : α) : upd f i v i = v := by simp [upd]
theorem upd_ne {α : Type} (f : Nat → α) {i j : Nat} (v : α) (h : j ≠ i) : upd f i v j = f j := by simp [upd, h]

section
variable {w w' : World} {b n : Nat} {f : Nat → Value}
theorem Blk.of_block (h : Blk w b n f) (hs : w.heap.size ≤ w'.heap.size) (hb : w'.heap[b]? = w.heap[b]?) : Blk w' b n f :=
  ⟨Nat.lt_of_lt_of_le h.lt hs, fun i hi => by rw [World.cell?_of_block hb]; exact h.is i hi, fun i hi => by
    have := h.fz i hi
    simp only [World.frozen?] at this ⊢
    rw [hb]; exact this⟩
theorem Blk.below (h : Blk w b n f) (hb : Below w.heap.size w w') : Blk w' b n f := h.of_block hb.size (hb.block b h.lt)
theorem Blk.kept {c : Nat} (h : Blk w b n f) (hk : KeptBut c w w') (hne : b ≠ c) : Blk w' b n f := h.of_block hk.size (hk.block b h.lt hne)
theorem Blk.set (h : Blk w b n f) (i : Nat) (v : Value) (hi : i < n) : Blk (w.setCell ⟨b, i, none⟩ v) b n (upd f i v) := by
  refine ⟨by simpa using h.lt, fun j hj => ?_, fun j hj => by rw [World.frozen?_setCell]; exact h.fz j hj⟩
  by_cases hji : j = i
  · subst hji
    rw [upd_at]
    exact World.cell?_setCell_same _ _ _ (h.is j hj)
  · rw [upd_ne _ _ hji, World.cell?_setCell_other _ _ _ _ (fun e => hji (by have := congrArg Addr.off e; simpa using this.symm))]
    exact h.is j hj
theorem Blk.congr {g : Nat → Value} (h : Blk w b n f) (he : ∀ i, i < n → f i = g i) : Blk w b n g := ⟨h.lt, fun i hi => by rw [h.is i hi, he i hi], h.fz⟩
end

/-- A table, plain: gr by slot and cell, pl by robot and slot, sp by robot: cell, first tick, first tick behind. -/
structure TabS where
  nc : Nat
  nr : Nat
  cap : Nat
  base : Nat
  held : Nat
  gr : Nat → Int
  pl : Nat → Nat → Int
  sp : Nat → List (Nat × Nat × Nat)

/-- Where it lies. -/
structure TabM where
  t : Nat
  g : Nat
  p : Nat
  s : Nat
  pr : Nat → Nat
  sv : Nat → Value
  gc : Nat
  pc : Nat → Nat

/-- Spans as cells. -/
def srow (l : List (Nat × Nat × Nat)) : List Value := l.flatMap fun x => [.int .i64 (x.1), .int .i64 (x.2.1), .int .i64 (x.2.2)]
theorem srow_len (l : List (Nat × Nat × Nat)) : (srow l).length = 3 * l.length := by
  induction l with
  | nil => rfl
  | cons x l ih => simp [srow] at ih ⊢; omega
theorem srow_at (l : List (Nat × Nat × Nat)) (k : Nat) (x : Nat × Nat × Nat) (h : l[k]? = some x) : (srow l)[3 * k]? = some (.int .i64 (x.1)) ∧ (srow l)[3 * k + 1]? = some (.int .i64 (x.2.1)) ∧ (srow l)[3 * k + 2]? = some (.int .i64 (x.2.2)) := by
  induction l generalizing k with
  | nil => simp at h
  | cons y l ih =>
    cases k with
    | zero => simp at h; subst h; exact ⟨rfl, rfl, rfl⟩
    | succ k =>
      have := ih k (by simpa using h)
      rw [show 3 * (k + 1) = 3 * k + 3 by omega, show 3 * k + 3 + 1 = 3 * k + 1 + 3 by omega, show 3 * k + 3 + 2 = 3 * k + 2 + 3 by omega]
      exact this

/-- A robot's spans in memory. -/
structure SpAt (w : World) (lab : Nat → Nat) (tag : Nat) (v : Value) (l : List (Nat × Nat × Nat)) : Prop where
  ex : ∃ (ao : Option Addr) (cap : Nat), v = .slice ao l.length cap ∧ l.length ≤ cap ∧ ((ao = none ∧ cap = 0) ∨ ∃ b, ao = some ⟨b, 0, none⟩ ∧ (lab b = tag ∧ 1 ≤ cap) ∧ Pad w b (3 * cap) (srow l))

def tcell (M : TabM) (T : TabS) : Nat → Value
  | 0 => .int .i64 (T.nc)
  | 1 => .int .i64 (T.nr)
  | 2 => .int .i64 (T.cap)
  | 3 => .int .i64 (T.base)
  | 4 => .int .i64 (T.held)
  | 5 => .slice (some ⟨M.g, 0, none⟩) (256 * T.nc) M.gc
  | 6 => .slice (some ⟨M.p, 0, none⟩) T.nr T.nr
  | _ => .slice (some ⟨M.s, 0, none⟩) T.nr T.nr

/-- The numbers' bounds. -/
structure TBd (T : TabS) : Prop where
  nc : 1 ≤ T.nc ∧ T.nc ≤ 150
  nr : 1 ≤ T.nr ∧ T.nr ≤ 6
  cap : T.cap ≤ 1536
  base : T.base ≤ 1073741824
  held : T.held ≤ T.cap
  gr : ∀ i, i < 256 * T.nc → 0 ≤ T.gr i ∧ T.gr i ≤ T.nr
  pl : ∀ r s, r < T.nr → s < 256 → -1 ≤ T.pl r s ∧ T.pl r s < T.nc
  sp : ∀ r x, r < T.nr → x ∈ T.sp r → x.1 < T.nc ∧ x.2.1 ≤ 2000000000 ∧ x.2.2 ≤ 1099511627776
  ln : ∀ r, r < T.nr → (T.sp r).length ≤ 1536

/-- The table in memory; lab: whose a block is. -/
structure TAt (w : World) (lab : Nat → Nat) (M : TabM) (T : TabS) : Prop where
  bd : TBd T
  bt : Blk w M.t 8 (tcell M T)
  bg : Blk w M.g (256 * T.nc) (fun i => .int .i8 (T.gr i))
  bp : Blk w M.p T.nr (fun r => .slice (some ⟨M.pr r, 0, none⟩) 256 (M.pc r))
  bpr : ∀ r, r < T.nr → Blk w (M.pr r) 256 (fun s => .int .i16 (T.pl r s))
  bs : Blk w M.s T.nr M.sv
  bsr : ∀ r, r < T.nr → SpAt w lab (20 + r) (M.sv r) (T.sp r)
  lt : lab M.t = 6
  lg : lab M.g = 7
  lp : lab M.p = 8
  ls : lab M.s = 9
  lpr : ∀ r, r < T.nr → lab (M.pr r) = 10 + r

section
variable {w w' : World} {lab : Nat → Nat} {M : TabM} {T : TabS}
theorem SpAt.of {tag : Nat} {v : Value} {l : List (Nat × Nat × Nat)} (h : SpAt w lab tag v l) (hs : w.heap.size ≤ w'.heap.size) (hb : ∀ b, b < w.heap.size → lab b = tag → w'.heap[b]? = w.heap[b]?) : SpAt w' lab tag v l := by
  obtain ⟨ao, cap, h1, h2, h3⟩ := h.ex
  refine ⟨ao, cap, h1, h2, ?_⟩
  rcases h3 with h3 | ⟨b, e, hl, hp⟩
  · exact Or.inl h3
  · exact Or.inr ⟨b, e, hl, hp.of_block hs (hb b hp.lt hl.1)⟩
theorem TAt.below (h : TAt w lab M T) (hb : Below w.heap.size w w') : TAt w' lab M T :=
  { h with bt := h.bt.below hb, bg := h.bg.below hb, bp := h.bp.below hb, bpr := fun r hr => (h.bpr r hr).below hb, bs := h.bs.below hb, bsr := fun r hr => (h.bsr r hr).of hb.size (fun b hlt _ => hb.block b hlt) }
theorem TAt.ex (h : TAt w lab M T) (z : World) : TAt (w.ext z) lab M T := h.below (World.below_ext w z)
end

/-! what is asked -/
/-- In the window. -/
def TabS.win (T : TabS) (t : Int) : Bool := decide ((T.base : Int) ≤ t) && decide (t < (T.base : Int) + 256)
/-- The first span that covers a tick. -/
def spAt : List (Nat × Nat × Nat) → Int → Int
  | [], _ => -1
  | x :: l, t => if (x.2.1 : Int) ≤ t ∧ t < x.2.2 then (x.1 : Int) else spAt l t
/-- Where a robot is at a tick. -/
def TabS.at (T : TabS) (r : Nat) (t : Int) : Int :=
  if T.win t = true ∧ T.pl r (t.toNat % 256) ≠ -1 then T.pl r (t.toNat % 256) else spAt (T.sp r) t
/-- Does a span of the list hold a cell at a tick? -/
def spOn : List (Nat × Nat × Nat) → Nat → Int → Bool
  | [], _, _ => false
  | x :: l, c, t => if x.1 = c ∧ (x.2.1 : Int) ≤ t ∧ t < x.2.2 then true else spOn l c t
/-- The first of the robots from k on, n of them, with a span on the cell. -/
def TabS.spBy (T : TabS) (c : Nat) (t : Int) : Nat → Nat → Int
  | _, 0 => -1
  | k, n + 1 => if spOn (T.sp k) c t then (k : Int) else T.spBy c t (k + 1) n
/-- Who is on a cell at a tick. -/
def TabS.hold (T : TabS) (c : Nat) (t : Int) : Int :=
  if T.win t = true ∧ T.gr ((t.toNat % 256) * T.nc + c) ≠ 0 then T.gr ((t.toNat % 256) * T.nc + c) - 1 else T.spBy c t 0 T.nr
def TabS.swaps (T : TabS) (r : Int) (a b : Nat) (t : Int) : Bool :=
  if a = b then false else decide (T.hold b t ≠ -1 ∧ T.hold b t ≠ r ∧ T.hold a (t + 1) = T.hold b t)
end Go.Proofs.Qxb6500717aGreat
