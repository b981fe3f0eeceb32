/-
  entry: where a neighbour stands in the lists.
-/
import Derived.Test.Qxb6500715aFmtSym
namespace Go.Proofs.Qxb6500715aFmt
open Go.RowKit
set_option linter.unusedSimpArgs false
set_option linter.unusedVariables false

/-- The first place of b in a list, the list standing from i on. -/
def fnd (b : Nat) : List Nat → Nat → Int
  | [], _ => -1
  | x :: l, i => if x = b then (i : Int) else fnd b l (i + 1)
def FP.ent (F : FP) (a b : Nat) : Int := fnd b (F.adj a) (F.st a)

theorem fnd_mem (b : Nat) (l : List Nat) : ∀ i, 0 ≤ fnd b l i ↔ b ∈ l := by
  induction l with
  | nil => intro i; simp [fnd]
  | cons x l ih =>
    intro i
    simp only [fnd, List.mem_cons]
    by_cases h : x = b
    · rw [if_pos h]; constructor
      · intro _; exact Or.inl h.symm
      · intro _; omega
    · rw [if_neg h, ih]; constructor
      · exact Or.inr
      · rintro (h' | h')
        · exact absurd h'.symm h
        · exact h'
theorem fnd_lt (b : Nat) (l : List Nat) : ∀ i, fnd b l i < (i : Int) + l.length := by
  induction l with
  | nil => intro i; simp [fnd]; omega
  | cons x l ih =>
    intro i
    simp only [fnd, List.length_cons]
    split
    · omega
    · have := ih (i + 1); omega

/-- The neighbour lists in memory. -/
structure Lnk (w : World) (F : FP) (sb cb : Nat) : Prop where
  k15 : w.cell? ⟨F.fb, 15, none⟩ = some (.slice (some ⟨sb, 0, none⟩) (F.N + 1) (F.N + 1))
  k16 : w.cell? ⟨F.fb, 16, none⟩ = some (.slice (some ⟨cb, 0, none⟩) (F.st F.N) (4 * F.N))
  hfb : F.fb < w.heap.size
  lt : sb < w.heap.size ∧ cb < w.heap.size
  sv : ∀ j, j ≤ F.N → w.cell? ⟨sb, j, none⟩ = some (.int .i64 (F.st j))
  cv : ∀ (j x : Nat), (F.flat F.N)[j]? = some x → w.cell? ⟨cb, j, none⟩ = some (.int .i64 (x))

theorem Lnk.below {w w' : World} {F : FP} {sb cb : Nat} (h : Lnk w F sb cb) (hb : Below w.heap.size w w') : Lnk w' F sb cb :=
  ⟨(World.cell?_of_block (hb.block _ h.hfb)).trans h.k15, (World.cell?_of_block (hb.block _ h.hfb)).trans h.k16, Nat.lt_of_lt_of_le h.hfb hb.size, ⟨Nat.lt_of_lt_of_le h.lt.1 hb.size, Nat.lt_of_lt_of_le h.lt.2 hb.size⟩,
    fun j hj => (World.cell?_of_block (hb.block _ h.lt.1)).trans (h.sv j hj), fun j x hx => (World.cell?_of_block (hb.block _ h.lt.2)).trans (h.cv j x hx)⟩
theorem Lnk.ex {w : World} {F : FP} {sb cb : Nat} (h : Lnk w F sb cb) (z : World) : Lnk (w.ext z) F sb cb := h.below (World.below_ext w z)
theorem Lnk.al {w : World} {F : FP} {sb cb : Nat} (h : Lnk w F sb cb) (o : Obj) : Lnk (w.alloc o) F sb cb := h.below ((Below.rf w).al o)

set_option maxHeartbeats 1000000 in
theorem entry_any (F : FP) (sb cb a b : Nat) (w : World) (h : Lnk w F sb cb) (hN : F.N ≤ 384) (ha : a < F.N) :
    Calls Tryf.prog 25 #[.pointer (some ⟨F.fb, 0, none⟩), .int .i64 (a), .int .i64 (b)] w fun e w' => e = .returned (.int .i64 (F.ent a b)) ∧ w' = w := by
  have HH := hid h
  obtain ⟨k15, k16, hfb, ⟨hsb, hcb⟩, sv, cv⟩ := h
  have s0 := sv a (by omega)
  have s1 := sv (a + 1) (by omega)
  rw [F.st_succ] at s1
  have hst : F.st a + (F.adj a).length ≤ F.st F.N := by rw [← F.st_succ]; exact F.st_mono (by omega)
  have hfl : F.st F.N ≤ 1536 := by have := F.flat_len F.N; rw [FP.st]; omega
  obtain ⟨sa, hsa⟩ : ∃ x, F.st a = x := ⟨_, rfl⟩
  obtain ⟨la, hla⟩ : ∃ x, (F.adj a).length = x := ⟨_, rfl⟩
  rw [hsa] at s0 s1 hst
  rw [hla] at s1 hst
  have HSA := hid hsa
  have HLA := hid hla
  clear sv cv hsa hla
  go_enter Tryf.func25, Tryf.ntmps25
  go_wp2
  go_loopw [7] (fun x w' => ∃ j : Nat, j ≤ la ∧ x = .int .i64 ((sa + j : Nat)) ∧ fnd b ((F.adj a).drop j) (sa + j) = F.ent a b ∧ w' = w) (fun x _ => sa + la - (intOf x).toNat)
  case atStart => exact ⟨0, Nat.zero_le _, rfl, by rw [FP.ent, HSA.out]; rfl, rfl⟩
  case round =>
    obtain ⟨j, hj, rfl, hf, rfl⟩ := hrel
    have HF := hid hf
    clear hf
    by_cases hlt : j < la
    · have hlt2 : j < (F.adj a).length := by rw [HLA.out]; exact hlt
      have hd : (F.adj a).drop j = (F.adj a)[j] :: (F.adj a).drop (j + 1) := List.drop_eq_getElem_cons hlt2
      have hx := HH.out.cv (sa + j) (F.adj a)[j] (by rw [← HSA.out, F.flat_get a j F.N ha hlt2]; exact List.getElem?_eq_getElem hlt2)
      have hF2 := HF.out
      rw [hd] at hF2
      simp only [fnd] at hF2
      generalize (F.adj a)[j] = x at *
      have HF2 := hid hF2
      clear hF2 hd HF
      by_cases hxb : x = b
      · subst hxb
        go_wp2
        go_ret
        have := HF2.out
        rw [if_pos trivial] at this
        exact ⟨ret_int (by rw [← this]; omega), rfl⟩
      · have bx : ((x : Int) == (b : Int)) = false := by simp; omega
        go_wp2
        go_roundw
        case rel =>
          have := HF2.out
          rw [if_neg hxb] at this
          exact ⟨j + 1, by omega, by go_num, this, trivial⟩
        case measure => simp [intOf]; omega
    · obtain rfl : j = la := by omega
      go_wp2
      go_ret
      have := HF.out
      rw [List.drop_eq_nil_of_le (by rw [HLA.out]; exact Nat.le_refl _)] at this
      exact ⟨ret_int this, rfl⟩
end Go.Proofs.Qxb6500715aFmt
