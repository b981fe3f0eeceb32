/-
  A set of cells: map[Cell]bool that the call makes.
-/
import Derived.Test.Qxb6500715aDoorFlrs
import Derived.Maps.OwnSet
import Derived.Maps.OwnOps
namespace Go.Proofs.Qxb6500715aDoor
open Go.RowKit Go.Maps
set_option linter.unusedSimpArgs false
set_option linter.unusedVariables false

/-- The cells put in, one behind the other. -/
def setD : List Nat → DataW Unit := fun acc => acc.foldl (fun m (c : Nat) => m.put (.int .i64 (c : Int)) (.lit (.bool true))) (.map [])
theorem setD_snoc (acc : List Nat) (c : Nat) : setD (acc ++ [c]) = (setD acc).put (.int .i64 (c : Int)) (.lit (.bool true)) := by simp [setD, List.foldl_append]
theorem key_lit (c : Nat) : WideAt.IsKeyLit (.int .i64 (c : Int)) := by simp [WideAt.IsKeyLit]

theorem snoc_rec {P : List Nat → Prop} (h0 : P []) (h1 : ∀ l x, P l → P (l ++ [x])) (l : List Nat) : P l := by
  have : ∀ n (l : List Nat), l.length = n → P l := by
    intro n
    induction n with
    | zero => intro l hl; rw [List.eq_nil_of_length_eq_zero hl]; exact h0
    | succ n ih =>
      intro l hl
      have hne : l ≠ [] := by intro e; rw [e] at hl; simp at hl
      rw [← List.dropLast_concat_getLast hne]
      exact h1 _ _ (ih _ (by simp [hl]))
  exact this _ l rfl

theorem setD_tidy (acc : List Nat) : Tidy (setD acc) := by
  induction acc using snoc_rec with
  | h0 => exact tidy_empty
  | h1 l x ih => rw [setD_snoc]; exact ih.put (key_lit x) _
theorem setD_at (acc : List Nat) (c : Nat) : (setD acc).atKey (.int .i64 (c : Int)) (.lit (.bool false)) = .lit (.bool (decide (c ∈ acc))) := by
  induction acc using snoc_rec with
  | h0 => simp [setD]; rfl
  | h1 l x ih =>
    rw [setD_snoc]
    by_cases hcx : c = x
    · subst hcx
      rw [atKey_put_same (setD_tidy l).isMap (key_lit c)]; simp
    · rw [atKey_put_other (fun e => by simp at e; omega), ih]; simp [hcx]
theorem setD_has (acc : List Nat) (c : Nat) : Maps.has (setD acc) (.int .i64 (c : Int)) = decide (c ∈ acc) := by
  induction acc using snoc_rec with
  | h0 => simp [setD, Maps.has]
  | h1 l x ih =>
    rw [setD_snoc]
    by_cases hcx : c = x
    · subst hcx
      rw [has_put_same (setD_tidy l).isMap (key_lit c)]; simp
    · rw [has_put_other (fun e => by simp at e; omega), ih]; simp [hcx]
theorem setD_size (acc : List Nat) (h : acc.Nodup) : Maps.size (setD acc) = acc.length := by
  induction acc using snoc_rec with
  | h0 => simp [setD, Maps.size]
  | h1 l x ih =>
    rw [List.nodup_append] at h
    rw [setD_snoc, size_put (setD_tidy l), setD_has, if_neg (by simp; exact fun hm => h.2.2 x hm x (by simp) rfl), ih h.1]; simp

/-- Block b is the set of the cells on the list. -/
def SetAt (w : World) (b : Nat) (acc : List Nat) : Prop := ∃ n, n ≤ 100000 + acc.length ∧ w.ownsMap Tryd.prog 28 (plainElem Tryd.prog 4) b n (setD acc)

theorem law28 : Keyed Tryd.prog 28 := int_keyed Tryd.underlying28
theorem zero4 (w : World) : (zeroValue 4).run Tryd.prog w = .ok (.bool false) w := by kernel_rfl
theorem key28 (c : Nat) (h : c ≤ 1000000) : keyOf Tryd.prog 28 (.int .i64 (c : Int)) = some (.int .i64 (c : Int)) := keyOf_int_mk Tryd.underlying28 (WalkArith.wf_i64 (by omega))

theorem plainElem_bool_inv {P : Program} {e : TypeId} (he : P.underlying e = some .bool) {v : Value} {z : DataW Unit × List MemPlace} (h : plainElem P e v = some z) : ∃ x, v = .bool x ∧ z = (.lit (.bool x), []) := by
  unfold plainElem at h
  rw [he] at h
  cases v <;> simp at h
  exact ⟨_, rfl, h.symm⟩

theorem SetAt.lookup {w : World} {b : Nat} {acc : List Nat} (h : SetAt w b acc) (c : Nat) (hc : c ≤ 1000000) : (Instr.lookup 30 (.map (some b)) (.int .i64 (c : Int)) false).run Tryd.prog w = .ok (.bool (decide (c ∈ acc))) w := by
  obtain ⟨n, _, ho⟩ := h
  obtain ⟨v, ps, hrun, hv⟩ := ho.lookup law28 Tryd.underlying30 (zero4 w) (plainElem_bool Tryd.underlying4 false) (key28 c hc)
  rw [setD_at] at hv
  obtain ⟨x, rfl, hx⟩ := plainElem_bool_inv Tryd.underlying4 hv
  simp at hx
  rw [hrun, hx.1]

theorem SetAt.update {w : World} {b : Nat} {acc : List Nat} (h : SetAt w b acc) (c : Nat) (hc : c ≤ 1000000) (ha : acc.length ≤ 1000000) :
    ∃ w', (Instr.mapUpdate 30 (.map (some b)) (.int .i64 (c : Int)) (.bool true)).run Tryd.prog w = .ok () w' ∧ SetAt w' b (acc ++ [c]) ∧ w.grownBy w' (some b) := by
  obtain ⟨n, hn, ho⟩ := h
  obtain ⟨w', h1, h2, h3⟩ := ho.update law28 Tryd.underlying30 (by unfold maxLen; omega) (key28 c hc) (plainElem_bool Tryd.underlying4 true)
  exact ⟨w', h1, ⟨n + 1, by simp; omega, by rw [setD_snoc]; exact h2⟩, h3⟩

theorem SetAt.made (w : World) : SetAt (w.alloc (.map #[] 0)) w.heap.size [] := ⟨0, by omega, World.ownsMap_made w Tryd.prog 28 _⟩
theorem SetAt.kept {w w' : World} {b : Nat} {acc : List Nat} {row : Option Nat} (h : SetAt w b acc) (hg : w.grownBy w' row) (hne : some b ≠ row) : SetAt w' b acc := by
  obtain ⟨n, hn, ho⟩ := h
  exact ⟨n, hn, ho.kept hg hne⟩
theorem SetAt.lt {w : World} {b : Nat} {acc : List Nat} (h : SetAt w b acc) : b < w.heap.size := by obtain ⟨n, hn, ho⟩ := h; exact ho.lt
theorem SetAt.below {w w' : World} {b : Nat} {acc : List Nat} (h : SetAt w b acc) (hb : Below w.heap.size w w') : SetAt w' b acc :=
  h.kept (row := none) ⟨hb.os, hb.tape, hb.output, hb.size, fun k hk _ => hb.block k hk⟩ (by simp)
theorem SetAt.len {w : World} {b : Nat} {acc : List Nat} (h : SetAt w b acc) (hd : acc.Nodup) (ty : TypeId) : (Builtin.len_ #[30] ty #[.map (some b)]).run Tryd.prog w = .ok (.int .i64 (acc.length)) w := by
  obtain ⟨n, hn, ho⟩ := h
  rw [ho.len Tryd.underlying30 ty, setD_size acc hd]

/-- How many entries a block's map has. -/
def mapSz (w : World) (b : Nat) : Nat := match w.heap[b]? with | some (.map es _) => es.size | _ => 0
theorem SetAt.sz {w : World} {b : Nat} {acc : List Nat} (h : SetAt w b acc) (hd : acc.Nodup) : mapSz w b = acc.length := by
  obtain ⟨n, hn, es, clock, hb, F, _, hD⟩ := h
  have h1 := setD_size acc hd
  rw [hD] at h1
  simp [Maps.size, length_sorted] at h1
  unfold mapSz
  rw [hb]; exact h1
end Go.Proofs.Qxb6500715aDoor
