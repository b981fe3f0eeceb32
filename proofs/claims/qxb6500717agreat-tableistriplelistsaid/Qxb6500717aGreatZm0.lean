/-
  modelState: copies, and the sorts of whatever length.
-/
import Derived.Test.Qxb6500717aGreatZs
import Derived.Test.Qxb6500717aGreatSame
import Derived.Test.Qxb6500717aGreatClo
import Derived.Laws.AppendOwnNone
namespace Go.Proofs.Qxb6500717aGreat
open Go.RowKit
set_option linter.unusedSimpArgs false
set_option linter.unusedVariables false
set_option maxRecDepth 20000
set_option maxHeartbeats 4000000
/-- A copy of a list. -/
def CpV (w : World) (base : Nat) (p : Option Addr) (cap n : Nat) (vs : List Value) : Prop := (p = none ∧ n = 0) ∨ ∃ b, p = some ⟨b, 0, none⟩ ∧ base ≤ b ∧ n ≤ cap ∧ Pad w b vs.length vs
theorem CpV.below {w w' : World} {base cap n : Nat} {p : Option Addr} {vs : List Value} (h : CpV w base p cap n vs) (hb : Below w.heap.size w w') : CpV w' base p cap n vs := by
  rcases h with h | ⟨b, h1, h2, h3, h4⟩
  · exact Or.inl h
  · exact Or.inr ⟨b, h1, h2, h3, Pad.below h4 hb⟩
theorem CpV.kept {w w' : World} {base cap n k : Nat} {p : Option Addr} {vs : List Value} (h : CpV w base p cap n vs) (hk : KeptBut k w w') (hne : ∀ b, p = some ⟨b, 0, none⟩ → b ≠ k) : CpV w' base p cap n vs := by
  rcases h with h | ⟨b, h1, h2, h3, h4⟩
  · exact Or.inl h
  · exact Or.inr ⟨b, h1, h2, h3, Pad.kept h4 hk (hne b h1)⟩
theorem CpV.lt {w : World} {base cap n : Nat} {p : Option Addr} {vs : List Value} (h : CpV w base p cap n vs) : ∀ b, p = some ⟨b, 0, none⟩ → base ≤ b ∧ b < w.heap.size := by
  intro b hb
  rcases h with ⟨h, -⟩ | ⟨c, h1, h2, h3, h4⟩
  · rw [h] at hb; cases hb
  · rw [h1] at hb
    simp at hb
    have := h4.lt
    omega
theorem oper_cp {w : World} {o : Oper} {a : Act} {K : Act → World → Prop} {Q : Exit → Act → World → Prop} (hgd : o.guard = none) (s x : Operand) (t e : TypeId) (z : Value) (sz bytes : Nat)
    (ho : o.op = .call { callee := .builtin .append, args := #[s, x], argTypes := #[t, t] })
    (ht : Tryz.prog.underlying t = some (.slice e)) (hinfo : (Tryz.prog.info? e).map (fun i => (i.zero, i.size, i.bytes)) = some (some z, sz, bytes)) (hzs : z.cells.size = sz) (hsz : 0 < sz)
    (G : Nat → Prop) (v : Value) (n : Nat) (vs : List Value) (hs : a.eval s = .slice none 0 0) (hx : a.eval x = v) (hl : LAz w G v n vs) (hlen : vs.length = n * sz) (hone : ∀ u ∈ vs, u.oneCell' = true) (hn : n ≤ 1000000) (hb : n * bytes ≤ 140737488355328)
    (h : ∀ p cap' w', CpV w' w.heap.size p cap' n vs → Below w.heap.size w w' → K (a.put o.dst (.slice p n cap')) w') : Oper.wp Tryz.prog o a w K Q := by
  rcases hl with ⟨rfl, rfl⟩ | ⟨b, cap, rfl, hnc, -, hlt, hcell⟩
  · obtain ⟨i, hi, -⟩ := info_parts hinfo
    have hrun := run_append_owned_none (P := Tryz.prog) (w := w) w.heap.size t o.type e i sz ht hi (.slice none 0 0) 0 [] ⟨by simp, Or.inl ⟨rfl, rfl⟩⟩
    have := h none 0 w (Or.inl ⟨rfl, rfl⟩) (Below.rf _)
    unfold Oper.wp
    simp [execOp, ho, resolve, invoke, builtin, hs, hx, hrun, Result.andThen]
    exact this
  · refine oper_app hgd s x t ho w.heap.size e z sz bytes ht hinfo hzs hsz (.slice none 0 0) 0 [] hs ⟨by simp, Or.inl ⟨rfl, rfl⟩⟩ b 0 n cap vs hx hlen (fun j u hj => by rw [Nat.zero_add]; exact hcell j u hj) hone (by omega) (by rw [Nat.zero_add]; exact hb) (Nat.le_refl _) ?_
    intro v' w' hown hB
    rw [List.nil_append, Nat.zero_add] at hown
    obtain ⟨h1, h2⟩ := hown
    rcases h2 with ⟨rfl, h3⟩ | ⟨g, cap2, cur, rfl, hg, hh, hnc2, _, hsz2, ht2⟩
    · subst h3; exact h none 0 w' (Or.inl ⟨rfl, rfl⟩) hB
    · have is : ∀ (j : Nat) u, vs[j]? = some u → w'.cell? ⟨g, j, none⟩ = some u := by
        intro j u hu
        rw [cell_of_row _ _ j cur e (0, 0) hh]
        rw [← ht2, List.getElem?_take] at hu
        split at hu
        · simpa using hu
        · cases hu
      refine h _ _ _ (Or.inr ⟨g, rfl, hg, hnc2, (Array.getElem?_eq_some_iff.1 hh).1, fun j hj => ?_, fun j hj => ?_, is, Nat.le_refl _⟩) hB
      · rw [is j _ (List.getElem?_eq_getElem hj)]; rfl
      · unfold World.frozen?; simp only [hh]; simp
theorem LAt.keep {w w' : World} {base n cap k : Nat} {p : Option Addr} {vs : List Value} (h : LAt w base (.slice p n cap) n vs) (hk : KeptBut k w w') (hne : ∀ b, p = some ⟨b, 0, none⟩ → b ≠ k) : LAt w' base (.slice p n cap) n vs := by
  obtain ⟨ao, cap', h1, h2, h3⟩ := h
  refine ⟨ao, cap', h1, h2, ?_⟩
  simp only [Value.slice.injEq, true_and] at h1
  obtain ⟨rfl, rfl⟩ := h1
  rcases h3 with h3 | ⟨b, e, h4, h5, h6⟩
  · exact Or.inl h3
  · exact Or.inr ⟨b, e, h4, Nat.lt_of_lt_of_le h5 hk.size, fun i u hu => by rw [World.cell?_of_block (hk.block b h5 (hne b e))]; exact h6 i u hu⟩
theorem get_arr {α : Type} [Inhabited α] (l : List α) (i : Nat) (h : i < l.length) : l[i]? = some (l.toArray)[i]! := by
  simp [h]
theorem holds_padT {w : World} {b : Nat} {H : List (Nat × Nat × Nat)} (h : Pad w b (srow H).length (srow H)) : Sort.HoldsK encT 3 w b 0 H.toArray := by
  intro t ht
  simp at ht
  rw [Sort.get_flatK _ _ _ _ (by simpa using ht), Nat.zero_add]
  have hi : t / 3 < H.length := by omega
  obtain ⟨a0, a1, a2⟩ := srow_at H (t / 3) _ (get_arr H (t / 3) hi)
  refine ⟨?_, h.fz t (by rw [srow_len]; omega)⟩
  rcases (by omega : t % 3 = 0 ∨ t % 3 = 1 ∨ t % 3 = 2) with h4 | h4 | h4
  · rw [h4]; refine h.is t _ ?_; rw [show t = 3 * (t / 3) by omega, a0]; rw [show 3 * (t / 3) / 3 = t / 3 by omega]; rfl
  · rw [h4]; refine h.is t _ ?_; rw [show t = 3 * (t / 3) + 1 by omega, a1]; rw [show (3 * (t / 3) + 1) / 3 = t / 3 by omega]; rfl
  · rw [h4]; refine h.is t _ ?_; rw [show t = 3 * (t / 3) + 2 by omega, a2]; rw [show (3 * (t / 3) + 2) / 3 = t / 3 by omega]; rfl
theorem holds_padQ {w : World} {b : Nat} {H : List (Nat × Nat × Nat × Nat)} (h : Pad w b (qrow H).length (qrow H)) : Sort.HoldsK encQ 4 w b 0 H.toArray := by
  intro t ht
  simp at ht
  rw [Sort.get_flatK _ _ _ _ (by simpa using ht), Nat.zero_add]
  have hi : t / 4 < H.length := by omega
  obtain ⟨a0, a1, a2, a3⟩ := qrow_at H (t / 4) _ (get_arr H (t / 4) hi)
  refine ⟨?_, h.fz t (by rw [qrow_len]; omega)⟩
  rcases (by omega : t % 4 = 0 ∨ t % 4 = 1 ∨ t % 4 = 2 ∨ t % 4 = 3) with h4 | h4 | h4 | h4
  · rw [h4]; refine h.is t _ ?_; rw [show t = 4 * (t / 4) by omega, a0]; rw [show 4 * (t / 4) / 4 = t / 4 by omega]; rfl
  · rw [h4]; refine h.is t _ ?_; rw [show t = 4 * (t / 4) + 1 by omega, a1]; rw [show (4 * (t / 4) + 1) / 4 = t / 4 by omega]; rfl
  · rw [h4]; refine h.is t _ ?_; rw [show t = 4 * (t / 4) + 2 by omega, a2]; rw [show (4 * (t / 4) + 2) / 4 = t / 4 by omega]; rfl
  · rw [h4]; refine h.is t _ ?_; rw [show t = 4 * (t / 4) + 3 by omega, a3]; rw [show (4 * (t / 4) + 3) / 4 = t / 4 by omega]; rfl
theorem lat_T {w : World} {b base n cap : Nat} {d : Array (Nat × Nat × Nat)} (h : Sort.HoldsK encT 3 w b 0 d) (hl : b < w.heap.size) (hb : base ≤ b) (hn : d.size = n) (hc : n ≤ cap) : LAt w base (.slice (some ⟨b, 0, none⟩) n cap) n (srow d.toList) := by
  refine ⟨_, cap, rfl, hc, Or.inr ⟨b, rfl, hb, hl, fun i u hu => ?_⟩⟩
  have hi : i < (srow d.toList).length := (List.getElem?_eq_some_iff.1 hu).1
  rw [srow_len] at hi
  simp at hi
  have hq : i / 3 < d.size := by omega
  obtain ⟨a0, a1, a2⟩ := srow_at d.toList (i / 3) d[i / 3]! (by simp [hq])
  obtain ⟨c0, c1, c2⟩ := holdsT h hq
  rcases (by omega : i % 3 = 0 ∨ i % 3 = 1 ∨ i % 3 = 2) with h4 | h4 | h4
  · rw [show i = 3 * (i / 3) by omega, a0] at hu; rw [show i = i / 3 * 3 by omega, c0]; exact hu
  · rw [show i = 3 * (i / 3) + 1 by omega, a1] at hu; rw [show i = i / 3 * 3 + 1 by omega, c1]; exact hu
  · rw [show i = 3 * (i / 3) + 2 by omega, a2] at hu; rw [show i = i / 3 * 3 + 2 by omega, c2]; exact hu
theorem lat_Q {w : World} {b base n cap : Nat} {d : Array (Nat × Nat × Nat × Nat)} (h : Sort.HoldsK encQ 4 w b 0 d) (hl : b < w.heap.size) (hb : base ≤ b) (hn : d.size = n) (hc : n ≤ cap) : LAt w base (.slice (some ⟨b, 0, none⟩) n cap) n (qrow d.toList) := by
  refine ⟨_, cap, rfl, hc, Or.inr ⟨b, rfl, hb, hl, fun i u hu => ?_⟩⟩
  have hi : i < (qrow d.toList).length := (List.getElem?_eq_some_iff.1 hu).1
  rw [qrow_len] at hi
  simp at hi
  have hq : i / 4 < d.size := by omega
  obtain ⟨a0, a1, a2, a3⟩ := qrow_at d.toList (i / 4) d[i / 4]! (by simp [hq])
  obtain ⟨c0, c1, c2, c3⟩ := holdsQ h hq
  rcases (by omega : i % 4 = 0 ∨ i % 4 = 1 ∨ i % 4 = 2 ∨ i % 4 = 3) with h4 | h4 | h4 | h4
  · rw [show i = 4 * (i / 4) by omega, a0] at hu; rw [show i = i / 4 * 4 by omega, c0]; exact hu
  · rw [show i = 4 * (i / 4) + 1 by omega, a1] at hu; rw [show i = i / 4 * 4 + 1 by omega, c1]; exact hu
  · rw [show i = 4 * (i / 4) + 2 by omega, a2] at hu; rw [show i = i / 4 * 4 + 2 by omega, c2]; exact hu
  · rw [show i = 4 * (i / 4) + 3 by omega, a3] at hu; rw [show i = i / 4 * 4 + 3 by omega, c3]; exact hu
theorem sortT (base Bs cap : Nat) (p : Option Addr) (H : List (Nat × Nat × Nat)) (w : World) (h : CpV w base p cap H.length (srow H)) (hl : H.length ≤ 1000000) (hBs : Bs < w.heap.size) (hb0 : base ≤ w.heap.size) (hne : ∀ b, p = some ⟨b, 0, none⟩ → b ≠ Bs) (hs : w.cell? ⟨Bs, 2, none⟩ = some (.slice p H.length cap)) :
    Calls Tryz.prog 61 #[.iface 27 (.slice p H.length cap), .func (.func 62) #[] #[.pointer (some ⟨Bs, 0, none⟩)]] w fun e w' => e = .returned (.tuple #[]) ∧ ∃ (d' : Array (Nat × Nat × Nat)) (blk : Nat), Sort.PermIn 0 H.toArray.size H.toArray d' ∧ Sort.SortedIn ltT 0 H.toArray.size d' ∧ base ≤ blk ∧ blk ≠ Bs ∧ KeptBut blk w w' ∧ (p = some ⟨blk, 0, none⟩ ∨ w.heap.size ≤ blk) ∧ LAt w' base (.slice p H.length cap) H.length (srow d'.toList) := by
  have hz : H.toArray.size = H.length := by simp
  by_cases h2 : H.length ≤ 1
  · refine (tinyT p H.length cap Bs w h2).mono ?_
    rintro e w' ⟨rfl, hb⟩
    have so : Sort.SortedIn ltT 0 H.toArray.size H.toArray := fun i j _ h1 h3 => by omega
    rcases h with ⟨rfl, h0⟩ | ⟨b, rfl, hb1, hnc, hx⟩
    · have hn : H = [] := List.length_eq_zero_iff.1 h0
      subst hn
      exact ⟨rfl, #[], w.heap.size, Sort.permIn_refl _ _ _, so, hb0, by omega, KeptBut.of_below hb (Nat.le_refl _), Or.inr (Nat.le_refl _), ⟨none, cap, rfl, Nat.zero_le _, Or.inl rfl⟩⟩
    · exact ⟨rfl, H.toArray, b, Sort.permIn_refl _ _ _, so, hb1, hne b rfl, KeptBut.of_below hb (Nat.le_refl _), Or.inl rfl, lat_T (holds_padT (Pad.below hx hb)) (Nat.lt_of_lt_of_le hx.lt hb.size) hb1 (by simp) hnc⟩
  · rcases h with ⟨rfl, h0⟩ | ⟨b, rfl, hb1, hnc, hx⟩
    · omega
    · have := sliceT b cap Bs H.toArray w (by omega) (by omega) (holds_padT hx) hx.lt hBs (hne b rfl).symm (by rw [hz]; exact hs)
      rw [hz] at this
      refine this.mono ?_
      rintro e w' ⟨rfl, d', h1, h3, h4, h5⟩
      have hz2 : d'.size = H.length := by rw [h1.1, hz]
      refine ⟨rfl, d', b, h1, h3, hb1, hne b rfl, h5, Or.inl rfl, lat_T h4 (Nat.lt_of_lt_of_le hx.lt h5.size) hb1 hz2 hnc⟩
theorem sortQ (base Bs cap : Nat) (p : Option Addr) (H : List (Nat × Nat × Nat × Nat)) (w : World) (h : CpV w base p cap H.length (qrow H)) (hl : H.length ≤ 1000000) (hBs : Bs < w.heap.size) (hb0 : base ≤ w.heap.size) (hne : ∀ b, p = some ⟨b, 0, none⟩ → b ≠ Bs) (hs : w.cell? ⟨Bs, 3, none⟩ = some (.slice p H.length cap)) :
    Calls Tryz.prog 61 #[.iface 28 (.slice p H.length cap), .func (.func 63) #[] #[.pointer (some ⟨Bs, 0, none⟩)]] w fun e w' => e = .returned (.tuple #[]) ∧ ∃ (d' : Array (Nat × Nat × Nat × Nat)) (blk : Nat), Sort.PermIn 0 H.toArray.size H.toArray d' ∧ Sort.SortedIn ltQ 0 H.toArray.size d' ∧ base ≤ blk ∧ blk ≠ Bs ∧ KeptBut blk w w' ∧ (p = some ⟨blk, 0, none⟩ ∨ w.heap.size ≤ blk) ∧ LAt w' base (.slice p H.length cap) H.length (qrow d'.toList) := by
  have hz : H.toArray.size = H.length := by simp
  by_cases h2 : H.length ≤ 1
  · refine (tinyQ p H.length cap Bs w h2).mono ?_
    rintro e w' ⟨rfl, hb⟩
    have so : Sort.SortedIn ltQ 0 H.toArray.size H.toArray := fun i j _ h1 h3 => by omega
    rcases h with ⟨rfl, h0⟩ | ⟨b, rfl, hb1, hnc, hx⟩
    · have hn : H = [] := List.length_eq_zero_iff.1 h0
      subst hn
      exact ⟨rfl, #[], w.heap.size, Sort.permIn_refl _ _ _, so, hb0, by omega, KeptBut.of_below hb (Nat.le_refl _), Or.inr (Nat.le_refl _), ⟨none, cap, rfl, Nat.zero_le _, Or.inl rfl⟩⟩
    · exact ⟨rfl, H.toArray, b, Sort.permIn_refl _ _ _, so, hb1, hne b rfl, KeptBut.of_below hb (Nat.le_refl _), Or.inl rfl, lat_Q (holds_padQ (Pad.below hx hb)) (Nat.lt_of_lt_of_le hx.lt hb.size) hb1 (by simp) hnc⟩
  · rcases h with ⟨rfl, h0⟩ | ⟨b, rfl, hb1, hnc, hx⟩
    · omega
    · have := sliceQ b cap Bs H.toArray w (by omega) (by omega) (holds_padQ hx) hx.lt hBs (hne b rfl).symm (by rw [hz]; exact hs)
      rw [hz] at this
      refine this.mono ?_
      rintro e w' ⟨rfl, d', h1, h3, h4, h5⟩
      have hz2 : d'.size = H.length := by rw [h1.1, hz]
      refine ⟨rfl, d', b, h1, h3, hb1, hne b rfl, h5, Or.inl rfl, lat_Q h4 (Nat.lt_of_lt_of_le hx.lt h5.size) hb1 hz2 hnc⟩
end Go.Proofs.Qxb6500717aGreat
