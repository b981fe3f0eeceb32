/-
  Maps that serve as sets.
-/
import Derived.Test.Qxb6500716aTn
namespace Go.Proofs.Qxb6500716a
open Go.RowKit Go.Maps
set_option linter.unusedSimpArgs false
set_option linter.unusedVariables false
set_option maxRecDepth 20000
set_option maxHeartbeats 4000000

/-- Block b is a map of at most n entries that has just the keys S. -/
def HAt (kt et : TypeId) (w : World) (b n : Nat) (S : Lit → Prop) : Prop := ∃ D : DataW Unit, w.ownsMap Try.prog kt (plainElem Try.prog et) b n D ∧ ∀ kl, WideAt.IsKeyLit kl → (Maps.has D kl = true ↔ S kl)
/-- .. and says true at each. -/
def BAt (kt : TypeId) (w : World) (b n : Nat) (S : Lit → Prop) : Prop := ∃ D : DataW Unit, w.ownsMap Try.prog kt (plainElem Try.prog 4) b n D ∧ (∀ kl, WideAt.IsKeyLit kl → (Maps.has D kl = true ↔ S kl)) ∧ ∀ kl, WideAt.IsKeyLit kl → S kl → D.atKey kl (.lit (.bool false)) = .lit (.bool true)
section
variable {kt et : TypeId} {w w1 : World} {b n : Nat} {S : Lit → Prop}
theorem HAt.of_block (h : HAt kt et w b n S) (hb : w1.heap[b]? = w.heap[b]?) : HAt kt et w1 b n S := by
  obtain ⟨D, h1, h2⟩ := h
  exact ⟨D, own_of h1 hb, h2⟩
theorem BAt.of_block (h : BAt kt w b n S) (hb : w1.heap[b]? = w.heap[b]?) : BAt kt w1 b n S := by
  obtain ⟨D, h1, h2⟩ := h
  exact ⟨D, own_of h1 hb, h2⟩
theorem HAt.lt (h : HAt kt et w b n S) : b < w.heap.size := by obtain ⟨D, h1, h2⟩ := h; exact h1.lt
theorem BAt.lt (h : BAt kt w b n S) : b < w.heap.size := by obtain ⟨D, h1, h2⟩ := h; exact h1.lt
theorem HAt.below (h : HAt kt et w b n S) (hb : Below w.heap.size w w1) : HAt kt et w1 b n S := h.of_block (hb.block b h.lt)
theorem BAt.below (h : BAt kt w b n S) (hb : Below w.heap.size w w1) : BAt kt w1 b n S := h.of_block (hb.block b h.lt)
theorem HAt.keptL {lab : Nat → Nat} {A : Nat → Prop} (h : HAt kt et w b n S) (hk : KeptL lab A w w1) (hne : ¬ A (lab b)) : HAt kt et w1 b n S := h.of_block (hk.block b h.lt hne)
theorem HAt.congr {S' : Lit → Prop} (h : HAt kt et w b n S) (he : ∀ kl, S kl ↔ S' kl) : HAt kt et w b n S' := by
  obtain ⟨D, h1, h2⟩ := h
  exact ⟨D, h1, fun kl hl => (h2 kl hl).trans (he kl)⟩
theorem BAt.congr {S' : Lit → Prop} (h : BAt kt w b n S) (he : ∀ kl, S kl ↔ S' kl) : BAt kt w b n S' := by
  obtain ⟨D, h1, h2, h3⟩ := h
  exact ⟨D, h1, fun kl hl => (h2 kl hl).trans (he kl), fun kl hl hs => h3 kl hl ((he kl).2 hs)⟩
theorem HAt.made (kt et : TypeId) (w : World) : HAt kt et (w.alloc (.map #[] 0)) w.heap.size 0 (fun _ => False) := ⟨_, World.ownsMap_made w Try.prog kt (plainElem Try.prog et), fun kl _ => by simp [Maps.has]⟩
theorem BAt.made (kt : TypeId) (w : World) : BAt kt (w.alloc (.map #[] 0)) w.heap.size 0 (fun _ => False) := ⟨_, World.ownsMap_made w Try.prog kt (plainElem Try.prog 4), fun kl _ => by simp [Maps.has], fun _ _ h => h.elim⟩
theorem has_put_iff {D : DataW Unit} (hT : Tidy D) {S : Lit → Prop} (h : ∀ kl, WideAt.IsKeyLit kl → (Maps.has D kl = true ↔ S kl)) {key : Lit} (hk : WideAt.IsKeyLit key) (x : DataW Unit) (kl : Lit) (hl : WideAt.IsKeyLit kl) : Maps.has (D.put key x) kl = true ↔ (kl = key ∨ S kl) := by
  by_cases e : kl = key
  · subst e
    rw [has_put_same hT.isMap hk]
    simp
  · rw [has_put_other e, h kl hl]
    simp [e]
theorem HAt.put (h : HAt kt et w b n S) (K : Keyed Try.prog kt) {t : TypeId} (ht : Try.prog.underlying t = some (.map kt et)) (hn : n < 1000000000) {key val : Value} {kl : Lit} {d : DataW Unit} {ps : List MemPlace} (hkl : WideAt.IsKeyLit kl) (hkey : keyOf Try.prog kt key = some kl) (hv : plainElem Try.prog et val = some (d, ps)) :
    ∃ w', (Instr.mapUpdate t (.map (some b)) key val).run Try.prog w = .ok () w' ∧ HAt kt et w' b (n + 1) (fun x => x = kl ∨ S x) ∧ w.grownBy w' (some b) := by
  obtain ⟨D, h1, h2⟩ := h
  obtain ⟨w', hrun, r1, r2⟩ := h1.update (d := d) (ps := ps) K ht (by simp only [maxLen]; omega) hkey hv
  exact ⟨w', hrun, ⟨_, r1, fun x hx => has_put_iff (h1.tidy K) h2 hkl _ x hx⟩, r2⟩
theorem BAt.put (h : BAt kt w b n S) (K : Keyed Try.prog kt) {t : TypeId} (ht : Try.prog.underlying t = some (.map kt 4)) (hn : n < 1000000000) {key : Value} {kl : Lit} (hkl : WideAt.IsKeyLit kl) (hkey : keyOf Try.prog kt key = some kl) :
    ∃ w', (Instr.mapUpdate t (.map (some b)) key (.bool true)).run Try.prog w = .ok () w' ∧ BAt kt w' b (n + 1) (fun x => x = kl ∨ S x) ∧ w.grownBy w' (some b) := by
  obtain ⟨D, h1, h2, h3⟩ := h
  obtain ⟨w', hrun, r1, r2⟩ := h1.update K ht (by simp only [maxLen]; omega) hkey (plainElem_bool Try.underlying4 true)
  refine ⟨w', hrun, ⟨_, r1, fun x hx => has_put_iff (h1.tidy K) h2 hkl _ x hx, fun x hx hs => ?_⟩, r2⟩
  by_cases e : x = kl
  · subst e
    rw [atKey_put_same (h1.tidy K).isMap hkl]
  · rw [atKey_put_other e]
    exact h3 x hx (hs.resolve_left e)
theorem BAt.look (h : BAt kt w b n S) (K : Keyed Try.prog kt) {t : TypeId} (ht : Try.prog.underlying t = some (.map kt 4)) {key : Value} {kl : Lit} (hkl : WideAt.IsKeyLit kl) (hkey : keyOf Try.prog kt key = some kl) (x : Bool) (hx : S kl ↔ x = true) :
    (Instr.lookup t (.map (some b)) key false).run Try.prog w = .ok (.bool x) w := by
  obtain ⟨D, h1, h2, h3⟩ := h
  obtain ⟨v, ps, hrun, hv⟩ := h1.lookup K ht (zero4 w) (plainElem_bool Try.underlying4 false) hkey
  rw [hrun]
  have hb : v = .bool x := by
    have hd : D.atKey kl (.lit (.bool false)) = .lit (.bool x) := by
      cases x with
      | true => exact h3 kl hkl (hx.2 rfl)
      | false =>
        refine atKey_of_not_has ?_ _
        cases hh : Maps.has D kl with
        | false => rfl
        | true => exact absurd (hx.1 ((h2 kl hkl).1 hh)) (by simp)
    rw [hd] at hv
    unfold plainElem at hv
    rw [Try.underlying4] at hv
    cases v <;> simp at hv
    rw [hv.1]
  rw [hb]
theorem HAt.look (h : HAt kt 3 w b n S) (K : Keyed Try.prog kt) {t : TypeId} (ht : Try.prog.underlying t = some (.map kt 3)) {key : Value} {kl : Lit} (hkl : WideAt.IsKeyLit kl) (hkey : keyOf Try.prog kt key = some kl) (x : Bool) (hx : S kl ↔ x = true) :
    ∃ v, (Instr.lookup t (.map (some b)) key true).run Try.prog w = .ok (.tuple #[v, .bool x]) w := by
  obtain ⟨D, h1, h2⟩ := h
  obtain ⟨v, ps, hrun, hv⟩ := h1.look_ok K ht (zero3 w) (plainElem_int Try.underlying3 (I64.wf ⟨by omega, by omega⟩)) hkey
  refine ⟨v, ?_⟩
  rw [hrun]
  have : Maps.has D kl = x := by
    rw [Bool.eq_iff_iff, h2 kl hkl, hx]
  rw [this]
end
end Go.Proofs.Qxb6500716a
