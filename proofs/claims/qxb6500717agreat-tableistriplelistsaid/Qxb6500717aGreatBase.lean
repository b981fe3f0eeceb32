/-
  Worlds that only grow: 'w.ext z' is the world w with the blocks z.heap laid behind its own and the count of draws at z.drawn.
  A callee that writes to no memory but its own hands back such a world; a region that draws its order and only reads
  (its callees laying blocks of their own) is walked once, in the order of the text.
-/
import Derived.WalkKit
import Derived.Deep.QuietTactic
import Derived.BigQuiet
namespace Go
open Go.RowKit

/-- w with the blocks z.heap behind its own, the count of draws at z.drawn. -/
def World.ext (w : World) (z : World) : World := { w with heap := w.heap ++ z.heap, drawn := z.drawn }

section
variable (w : World) (z : World)

@[simp, go_sem] theorem World.size_ext : (w.ext z).heap.size = w.heap.size + z.heap.size := by simp [World.ext]

theorem World.block_ext (k : Nat) (h : k < w.heap.size) : (w.ext z).heap[k]? = w.heap[k]? := by
  simp only [World.ext]
  exact Array.getElem?_append_left h

theorem World.block_ext_behind (k : Nat) (h : ¬ k < w.heap.size) : (w.ext z).heap[k]? = z.heap[k - w.heap.size]? := by
  simp only [World.ext]
  exact Array.getElem?_append_right (by omega)

theorem World.cell?_ext_old (a : Addr) (h : a.block < w.heap.size) : (w.ext z).cell? a = w.cell? a :=
  World.cell?_of_block (w := w) (World.block_ext w z a.block h)

theorem World.frozen?_ext_old (a : Addr) (h : a.block < w.heap.size) : (w.ext z).frozen? a = w.frozen? a :=
  World.frozen?_of_block (w := w) (World.block_ext w z a.block h)

/-- The side condition stands as an 'if', so that the walk's arithmetic decides it. -/
theorem of_ite {p : Prop} [Decidable p] (h : (if p then 1 else 0) = 1) : p := by
  by_cases hp : p
  · exact hp
  · rw [if_neg hp] at h; cases h

theorem not_of_ite {p : Prop} [Decidable p] (h : (if p then 0 else 1) = 1) : ¬ p := by
  intro hp; rw [if_pos hp] at h; cases h

@[go_sem] theorem World.cell?_ext (b o : Nat) (s : Option Nat) (h : (if b < w.heap.size then 1 else 0) = 1) : (w.ext z).cell? ⟨b, o, s⟩ = w.cell? ⟨b, o, s⟩ :=
  World.cell?_ext_old w z ⟨b, o, s⟩ (of_ite h)

@[go_sem] theorem World.frozen?_ext (b o : Nat) (s : Option Nat) (h : (if b < w.heap.size then 1 else 0) = 1) : (w.ext z).frozen? ⟨b, o, s⟩ = w.frozen? ⟨b, o, s⟩ :=
  World.frozen?_ext_old w z ⟨b, o, s⟩ (of_ite h)

@[go_sem] theorem World.cell?_alloc_is (c : Array Value) (t : TypeId) (n i : Nat) (h : (if n = w.heap.size then 1 else 0) = 1) : (w.alloc (.cells c t)).cell? ⟨n, i, none⟩ = c[i]? :=
  World.cell?_alloc_at _ _ _ _ (of_ite h)

@[go_sem] theorem World.cell?_alloc_not (x : Obj) (n i : Nat) (h : (if n = w.heap.size then 0 else 1) = 1) : (w.alloc x).cell? ⟨n, i, none⟩ = w.cell? ⟨n, i, none⟩ :=
  World.cell?_alloc_old w _ ⟨n, i, none⟩ (not_of_ite h)

@[go_sem] theorem World.frozen?_alloc_is (c : Array Value) (t : TypeId) (n i : Nat) (h : (if n = w.heap.size then 1 else 0) = 1) : (w.alloc (.cells c t)).frozen? ⟨n, i, none⟩ = false := by
  have := of_ite h; subst this; simp

@[go_sem] theorem World.frozen?_alloc_not (x : Obj) (n i : Nat) (h : (if n = w.heap.size then 0 else 1) = 1) : (w.alloc x).frozen? ⟨n, i, none⟩ = w.frozen? ⟨n, i, none⟩ :=
  World.frozen?_alloc_old w _ ⟨n, i, none⟩ (not_of_ite h)

/-- A store moves inward, to the block that it writes. -/
theorem World.setCell_ext_old (a : Addr) (v : Value) (h : a.block < w.heap.size) : (w.ext z).setCell a v = (w.setCell a v).ext z := by
  simp only [World.setCell, World.ext]
  congr 1
  apply Array.ext_getElem?
  intro i
  simp only [Array.getElem?_modify, Array.getElem?_append, Array.size_modify]
  by_cases hi : i < w.heap.size
  · by_cases hb : a.block = i <;> simp [hi, hb]
  · have hb : ¬ a.block = i := by omega
    simp [hi, hb]

@[go_sem] theorem World.setCell_ext (b o : Nat) (s : Option Nat) (v : Value) (h : (if b < w.heap.size then 1 else 0) = 1) : (w.ext z).setCell ⟨b, o, s⟩ v = (w.setCell ⟨b, o, s⟩ v).ext z :=
  World.setCell_ext_old w z _ v (of_ite h)

@[go_sem] theorem World.setCell_alloc_not (x : Obj) (b o : Nat) (v : Value) (h : (if b < w.heap.size then 1 else 0) = 1) : (w.alloc x).setCell ⟨b, o, none⟩ v = (w.setCell ⟨b, o, none⟩ v).alloc x :=
  World.setCell_alloc_past _ _ _ _ (of_ite h)

@[go_sem] theorem World.setCell_alloc_is (c : Array Value) (t : TypeId) (n i : Nat) (v : Value) (h : (if n = w.heap.size then 1 else 0) = 1) : (w.alloc (.cells c t)).setCell ⟨n, i, none⟩ v = w.alloc (.cells (c.setIfInBounds i v) t) :=
  World.setCell_alloc_at _ _ _ _ _ (of_ite h)

@[simp, go_sem] theorem World.tape_ext : (w.ext z).tape = w.tape := rfl
@[simp, go_sem] theorem World.os_ext : (w.ext z).os = w.os := rfl
@[simp, go_sem] theorem World.output_ext : (w.ext z).output = w.output := rfl
@[simp, go_sem] theorem World.drawn_ext : (w.ext z).drawn = z.drawn := rfl
@[simp, go_sem] theorem World.ext_ext (y : World) : (w.ext z).ext y = w.ext { y with heap := z.heap ++ y.heap } := by simp [World.ext, Array.append_assoc]
@[simp, go_sem] theorem World.ext_drew : (w.ext z).drew = w.ext z.drew := rfl
@[simp, go_sem] theorem World.ext_drewN (n : Nat) : (w.ext z).drewN n = w.ext (z.drewN n) := rfl
@[simp, go_sem] theorem World.drew_ext : w.drew.ext z = w.ext z := rfl
@[simp, go_sem] theorem World.drewN_ext (n : Nat) : (w.drewN n).ext z = w.ext z := rfl
end

theorem World.below_ext (w : World) (z : World) : Below w.heap.size w (w.ext z) :=
  ⟨rfl, rfl, rfl, by simp, fun k hk => World.block_ext w z k hk⟩

theorem _root_.Go.RowKit.Below.ext {B : Nat} {a w : World} (h : Below B a w) (hB : B ≤ w.heap.size) (z : World) : Below B a (w.ext z) :=
  h.trans ((World.below_ext w z).mono hB)

/-- What is as it was below its own size is an 'ext'. -/
theorem _root_.Go.RowKit.Below.is_ext {w w' : World} (h : Below w.heap.size w w') : ∃ z, w' = w.ext z := by
  refine ⟨{ w' with heap := w'.heap.extract w.heap.size w'.heap.size }, ?_⟩
  have hh : w'.heap = w.heap ++ w'.heap.extract w.heap.size w'.heap.size := by
    apply Array.ext_getElem?
    intro i
    rcases Nat.lt_or_ge i w.heap.size with hi | hi
    · rw [Array.getElem?_append_left hi]; exact h.block i hi
    · rw [Array.getElem?_append_right hi, Array.getElem?_extract]
      have hs := h.size
      split
      · rw [show w.heap.size + (i - w.heap.size) = i by omega]
      · rw [Array.getElem?_eq_none (by omega)]
  cases w' with
  | mk heap tape drawn os output =>
    have h1 := h.os; have h2 := h.tape; have h3 := h.output
    simp only at h1 h2 h3 hh
    subst h1 h2 h3
    simp only [World.ext]
    rw [← hh]

/-- A region that draws its order, whose operations only read and whose callees lay blocks of their own alone. -/
theorem wp_region_ext {P : Program} {id : Nat} {Q : Exit → Act → World → Prop} {a : Act} {w : World} {l : List Oper} (hm : P.follows .mixedOrders = true) (hB : Region.lexB .any l.toArray = true)
    (h : wpQuiet P l.toArray (fun w' => ∃ z, w' = w.ext z) (fun a' => ∀ w', (∃ z, w' = w.ext z) → Q .normal a' w') l a) : (Code.region id l.toArray true).wp P Q a w :=
  wp_region_quiet (C := fun w' => ∃ z, w' = w.ext z) hm hB ⟨{ w with heap := #[], drawn := w.drawn + 1 }, by simp [World.ext]⟩ (by simpa using h)

/-- The same, from a world that is an 'ext' already. -/
theorem wp_region_ext2 {P : Program} {id : Nat} {Q : Exit → Act → World → Prop} {a : Act} {w z : World} {l : List Oper} (hm : P.follows .mixedOrders = true) (hB : Region.lexB .any l.toArray = true)
    (h : wpQuiet P l.toArray (fun w' => ∃ y, w' = w.ext y) (fun a' => ∀ w', (∃ y, w' = w.ext y) → Q .normal a' w') l a) : (Code.region id l.toArray true).wp P Q a (w.ext z) :=
  wp_region_quiet (C := fun w' => ∃ y, w' = w.ext y) hm hB ⟨z.drew, rfl⟩ (by simpa using h)

/-- A callee's contract inside such a region. -/
theorem Calls.ext_of {P : Program} {f : FuncId} {args : Array Value} {w : World} {z : World} {v : Value}
    (h : Calls P f args (w.ext z) fun e w' => e = .returned v ∧ ∃ y, w' = (w.ext z).ext y) : Calls P f args (w.ext z) fun e w'' => e = .returned v ∧ ∃ y, w'' = w.ext y :=
  h.mono fun _ _ ⟨he, y, hm⟩ => ⟨he, { y with heap := z.heap ++ y.heap }, by rw [hm, World.ext_ext]⟩

theorem Calls.ext_of_same {P : Program} {f : FuncId} {args : Array Value} {w : World} {z : World} {v : Value}
    (h : Calls P f args (w.ext z) fun e w' => e = .returned v ∧ w' = w.ext z) : Calls P f args (w.ext z) fun e w'' => e = .returned v ∧ ∃ y, w'' = w.ext y :=
  h.mono fun _ _ ⟨he, hm⟩ => ⟨he, z, hm⟩

/-- A contract's truth value, known. -/
theorem Calls.tf {P : Program} {f : FuncId} {args : Array Value} {w : World} {b b' : Bool} {R : World → Prop} (h : Calls P f args w fun e w' => e = .returned (.bool b) ∧ R w') (hb : b = b') :
    Calls P f args w fun e w' => e = .returned (.bool b') ∧ R w' := hb ▸ h

/-- The same, the bound being the old world's own size: nothing is asked. -/
theorem _root_.Go.RowKit.Below.al {w w1 : World} (h : Below w.heap.size w w1) (o : Obj) : Below w.heap.size w (w1.alloc o) := h.alloc h.size o
theorem _root_.Go.RowKit.Below.ex {w w1 : World} (h : Below w.heap.size w w1) (z : World) : Below w.heap.size w (w1.ext z) := h.ext h.size z
theorem Below.rf (w : World) : Below w.heap.size w w := Below.refl _ _

theorem ret_dec {p q : Prop} [Decidable p] [Decidable q] (h : p ↔ q) : Ending.returned (.bool (decide p)) = .returned (.bool (decide q)) := by rw [decide_eq_decide.2 h]
theorem ret_no {q : Prop} [Decidable q] (h : ¬ q) : Ending.returned (.bool false) = .returned (.bool (decide q)) := by rw [decide_eq_false h]
theorem ret_yes {q : Prop} [Decidable q] (h : q) : Ending.returned (.bool true) = .returned (.bool (decide q)) := by rw [decide_eq_true h]
theorem ret_int {k : IntKind} {a b : Int} (h : a = b) : Ending.returned (.int k a) = .returned (.int k b) := by rw [h]
theorem ret_bool {a b : Bool} (h : a = b) : Ending.returned (.bool a) = .returned (.bool b) := by rw [h]

end Go
