/-
  Remaining: its rows in memory; plain sums.
-/
import Derived.Test.Qxb6500716aEa
import Derived.Test.Qxb6500716aTb
namespace Go.Proofs.Qxb6500716a
open Go.RowKit Go.Maps
set_option linter.unusedSimpArgs false
set_option linter.unusedVariables false
set_option maxRecDepth 20000
set_option maxHeartbeats 4000000
def sum2 (L : Nat → Nat → Nat) (m n : Nat) : Nat := sumR (fun l => sumR (L l) n) m
def set2 (L : Nat → Nat → Nat) (l c v : Nat) : Nat → Nat → Nat := fun a b => if a = l ∧ b = c then v else L a b
theorem set2_at (L : Nat → Nat → Nat) (l c v : Nat) : set2 L l c v l c = v := by simp [set2]
theorem set2_ne (L : Nat → Nat → Nat) {l c a b : Nat} (v : Nat) (h : ¬ (a = l ∧ b = c)) : set2 L l c v a b = L a b := by simp [set2, h]
theorem sum2_dec (L : Nat → Nat → Nat) {l c v m n : Nat} (hl : l < m) (hc : c < n) (hv : v < L l c) : sum2 (set2 L l c v) m n < sum2 L m n := by
  have h1 : sumR (L l) n = sumR (set2 L l c v l) n + (L l c - v) := sumR_set (r := c) (L l c - v) (by rw [set2_at]; omega) (fun i hi => set2_ne L v (fun e => hi e.2)) n hc
  have h2 : sum2 L m n = sum2 (set2 L l c v) m n + (L l c - v) := sumR_set (r := l) (L l c - v) h1 (fun i hi => by
    refine sumR_congr n (fun j hj => ?_)
    exact set2_ne L v (fun e => hi e.1)) m hl
  omega
/-- The rows while they are laid: i of them. -/
structure RmS (w : World) (LB K n : Nat) (rb : Nat → Nat) (i : Nat) (L : Nat → Nat → Nat) (wr : World) : Prop where
  lb : Blk wr LB (K + 1) (fun l => if l < i then .slice (some ⟨rb l, 0, none⟩) n n else .slice none 0 0)
  row : ∀ l, l < i → Blk wr (rb l) n (fun c => .int .i64 (L l c))
  fl : w.heap.size ≤ LB
  fr : ∀ l, l < i → w.heap.size ≤ rb l ∧ rb l ≠ LB
  ne : ∀ l l', l < i → l' < i → l ≠ l' → rb l ≠ rb l'
  k : Below w.heap.size w wr
section
variable {w wr w' : World} {LB K n : Nat} {rb : Nat → Nat} {i : Nat} {L L' : Nat → Nat → Nat}
theorem RmS.below (h : RmS w LB K n rb i L wr) (hb : Below wr.heap.size wr w') : RmS w LB K n rb i L w' :=
  ⟨h.lb.below hb, fun l hl => (h.row l hl).below hb, h.fl, h.fr, h.ne, h.k.trans (hb.mono h.k.size)⟩
theorem RmS.congr (h : RmS w LB K n rb i L wr) (he : ∀ l c, l < i → c < n → L l c = L' l c) : RmS w LB K n rb i L' wr :=
  { h with row := fun l hl => (h.row l hl).congr (fun c hc => by rw [he l c hl hc]) }
theorem RmS.set (h : RmS w LB K n rb i L wr) (l c v : Nat) (hl : l < i) (hc : c < n) : RmS w LB K n rb i (set2 L l c v) (wr.setCell ⟨rb l, c, none⟩ (.int .i64 (v))) := by
  have kb : KeptBut (rb l) wr (wr.setCell ⟨rb l, c, none⟩ (.int .i64 (v))) := (KeptBut.refl (rb l) wr).set (Or.inl rfl) _
  refine ⟨h.lb.kept kb (fun e => (h.fr l hl).2 e.symm), fun a ha => ?_, h.fl, h.fr, h.ne, h.k.setCell (by have := (h.fr l hl).1; simp; omega) _⟩
  by_cases e : a = l
  · subst e
    refine ((h.row a ha).set c _ hc).congr (fun j hj => ?_)
    unfold upd set2
    by_cases ej : j = c
    · rw [if_pos ej, if_pos ⟨rfl, ej⟩]
    · rw [if_neg ej, if_neg (fun x => ej x.2)]
  · refine ((h.row a ha).kept kb (h.ne a l ha hl e)).congr (fun j hj => ?_)
    rw [set2_ne L v (fun x => e x.1)]
/-- One more row. -/
theorem RmS.add {b : Nat} {f : Nat → Nat} (h : RmS w LB K n rb i L wr) (hi : i < K + 1) (hb : Blk wr b n (fun c => .int .i64 (f c))) (hbw : w.heap.size ≤ b) (hbl : b ≠ LB) (hbr : ∀ l, l < i → rb l ≠ b) : RmS w LB K n (upd rb i b) (i + 1) (upd L i f) (wr.setCell ⟨LB, i, none⟩ (.slice (some ⟨b, 0, none⟩) n n)) := by
  have kb : KeptBut LB wr (wr.setCell ⟨LB, i, none⟩ (.slice (some ⟨b, 0, none⟩) n n)) := (KeptBut.refl LB wr).set (Or.inl rfl) _
  have hu : ∀ l, l < i → upd rb i b l = rb l := fun l hl => upd_ne _ _ (by omega)
  refine ⟨(h.lb.set i _ hi).congr (fun l hl => ?_), fun l hl => ?_, h.fl, fun l hl => ?_, fun l l' hl hl' hne => ?_, h.k.setCell (by have := h.fl; simp; omega) _⟩
  · unfold upd
    by_cases e : l = i
    · rw [if_pos e, if_pos (by omega), if_pos e]
    · rw [if_neg e]
      dsimp only
      by_cases e2 : l < i
      · rw [if_pos e2, if_pos (by omega), if_neg e]
      · rw [if_neg e2, if_neg (by omega)]
  · by_cases e : l = i
    · subst e
      rw [upd_at, upd_at]
      exact hb.kept kb hbl
    · rw [hu l (by omega), upd_ne _ _ e]
      exact (h.row l (by omega)).kept kb (h.fr l (by omega)).2
  · by_cases e : l = i
    · subst e; rw [upd_at]; exact ⟨hbw, hbl⟩
    · rw [hu l (by omega)]; exact h.fr l (by omega)
  · by_cases e : l = i
    · subst e
      rw [upd_at, hu l' (by omega)]
      exact fun x => hbr l' (by omega) x.symm
    · by_cases e' : l' = i
      · subst e'
        rw [upd_at, hu l (by omega)]
        exact hbr l (by omega)
      · rw [hu l (by omega), hu l' (by omega)]
        exact h.ne l l' (by omega) (by omega) hne
end
/-- What a cell holds as a number. -/
def rdN (w : World) (a : Addr) : Nat := match w.cell? a with
  | some (.int _ x) => x.toNat
  | _ => 0
def rsum (w : World) (rb : Nat → Nat) (m n : Nat) : Nat := sumR (fun l => sumR (fun c => rdN w ⟨rb l, c, none⟩) n) m
theorem RmS.sum {w wr : World} {LB K n : Nat} {rb : Nat → Nat} {L : Nat → Nat → Nat} (h : RmS w LB K n rb (K + 1) L wr) : rsum wr rb (K + 1) n = sum2 L (K + 1) n := by
  refine sumR_congr _ (fun l hl => sumR_congr _ (fun c hc => ?_))
  unfold rdN
  rw [(h.row l hl).is c hc]
  simp
def bOf : Value → Nat
  | .bool true => 1
  | _ => 0
/-- No less than the estimate. -/
structure Lok (F : FS) (bay : Int) (gl : List (Int × Int)) (L : Nat → Nat → Nat) : Prop where
  lo : ∀ l c, l ≤ gl.length → c < F.n → F.est bay gl c l ≤ L l c
  hi : ∀ l c, l ≤ gl.length → c < F.n → L l c ≤ 1073741824
theorem Lok.set {F : FS} {bay : Int} {gl : List (Int × Int)} {L : Nat → Nat → Nat} (h : Lok F bay gl L) (l c v : Nat) (h1 : F.est bay gl c l ≤ v) (h2 : v ≤ 1073741824) : Lok F bay gl (set2 L l c v) := by
  refine ⟨fun a b ha hb => ?_, fun a b ha hb => ?_⟩
  · unfold set2
    split
    · rename_i e; rw [e.1, e.2]; exact h1
    · exact h.lo a b ha hb
  · unfold set2
    split
    · exact h2
    · exact h.hi a b ha hb
end Go.Proofs.Qxb6500716a
