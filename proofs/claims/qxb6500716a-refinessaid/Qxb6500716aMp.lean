/-
  Maps whose keys are pairs of integers: what they read as, plain.
-/
import Derived.Test.Qxb6500716aPad
import Derived.Test.Qxb6500716aReg
import Derived.Test.Qxb6500716aProg
import Derived.Test.Qxb6500716aChecked
import Derived.Maps.OwnSet
import Derived.Maps.RangeWalk
import Derived.WideKeyPair
import Derived.DeepKeys4
namespace Go.Proofs.Qxb6500716a
open Go.RowKit Go.Maps
open Go.WideMaps (ArrKey keyOf_pair)
set_option linter.unusedSimpArgs false
set_option linter.unusedVariables false

theorem cells113 : Try.prog.cellsOf 113 = 2 := by kernel_rfl
theorem arr113 : ArrKey Try.prog 113 3 2 := ⟨Try.underlying113, by kernel_rfl, by kernel_rfl, cells113⟩
theorem types1 : ∃ m, Try.prog.types.size = m + 1 := ⟨Try.prog.types.size - 1, by kernel_rfl⟩
theorem law113 : Keyed Try.prog 113 := Keyed.of_law arr113.law
theorem law3 : Keyed Try.prog 3 := int_keyed Try.underlying3
theorem zero3 (w : World) : (zeroValue 3).run Try.prog w = .ok (.int .i64 (0)) w := by kernel_rfl
theorem zero4 (w : World) : (zeroValue 4).run Try.prog w = .ok (.bool false) w := by kernel_rfl

def I64 (a : Int) : Prop := -9223372036854775808 ≤ a ∧ a ≤ 9223372036854775807
theorem I64.of {a : Int} (h : -9223372036854775808 ≤ a ∧ a ≤ 9223372036854775807) : I64 a := h
theorem I64.nat {n : Nat} (h : n ≤ 9223372036854775807) : I64 n := ⟨by omega, by omega⟩
theorem I64.wf {a : Int} (h : I64 a) : (Lit.int .i64 a).wf = true := WalkArith.wf_i64 h
theorem I64.of_wf {a : Int} (h : (Lit.int .i64 a).wf = true) : I64 a := by
  simp [Lit.wf, IntKind.min, IntKind.max, IntKind.bits, IntKind.signed] at h
  unfold I64
  omega

/-- A pair as a key. -/
def key2 (a b : Int) : Lit := .string (keyBytes [.int .i64 a, .int .i64 b])
theorem key2_lit (a b : Int) : WideAt.IsKeyLit (key2 a b) := by simp [key2, WideAt.IsKeyLit]
theorem key2_of {a b : Int} (ha : I64 a) (hb : I64 b) : keyOf Try.prog 113 (.agg #[.int .i64 (a), .int .i64 (b)]) = some (key2 a b) := keyOf_pair arr113 Try.underlying3 types1 ha.wf hb.wf
theorem key2_inj {a b c d : Int} (ha : I64 a) (hb : I64 b) (hc : I64 c) (hd : I64 d) (h : key2 a b = key2 c d) : a = c ∧ b = d := by
  have h1 := key2_of ha hb
  rw [h] at h1
  have := law113.inj h1 (key2_of hc hd)
  simpa using this
theorem two_of {α : Type} (l : List α) (h : l.length = 2) : ∃ x y, l = [x, y] := by
  match l, h with
  | [x, y], _ => exact ⟨x, y, rfl⟩
theorem pair_inv {P : Program} {k e : TypeId} {q : IntKind} (A : ArrKey P k e 2) (he : P.underlying e = some (.int q)) (hsz : ∃ m, P.types.size = m + 1) {v : Value} {kl : Lit} (h : keyOf P k v = some kl) :
    ∃ a b, v = .agg #[.int q a, .int q b] ∧ (Lit.int q a).wf = true ∧ (Lit.int q b).wf = true := by
  have hkt := A.keyType hsz
  obtain ⟨m, hm⟩ := hsz
  unfold keyOf at h
  simp only [A.hu] at h
  split at h
  · rename_i hf
    simp only [Bool.and_eq_true] at hf
    obtain ⟨-, hf⟩ := hf
    rw [hm] at h
    cases v <;> simp [Value.formed, A.hu, A.size] at hf
    rename_i xs
    obtain ⟨l⟩ := xs
    obtain ⟨x, y, rfl⟩ := two_of l (by simpa using hf)
    have e0 : P.keyLits (m + 1 + 1) k (Value.cells (.agg #[x, y])).toList = (if [x, y].length = P.cellsOf k then ((List.range 2).mapM fun i => P.keyLits (m + 1) e (([x, y].drop (i * P.cellsOf e)).take (P.cellsOf e))).map List.flatten else none) := by
      conv => lhs; unfold Program.keyLits
      simp only [A.hu, Value.cells]
    rw [show (⟨[x, y]⟩ : Array Value) = #[x, y] from rfl, e0, if_pos (by rw [A.size]; rfl), show List.range 2 = [0, 1] from rfl, List.mapM_cons, List.mapM_cons, List.mapM_nil] at h
    simp only [A.one, List.drop, List.take, Nat.zero_mul, Nat.one_mul] at h
    cases hx : P.keyLits (m + 1) e [x] with
    | none => simp [hx] at h
    | some lx =>
      cases hy : P.keyLits (m + 1) e [y] with
      | none => simp [hx, hy] at h
      | some ly =>
        have one : ∀ (u : Value) (lu : List Lit), P.keyLits (m + 1) e [u] = some lu → ∃ a, u = .int q a ∧ (Lit.int q a).wf = true := by
          intro u lu hu
          unfold Program.keyLits at hu
          simp only [he] at hu
          cases u <;> simp at hu
          exact ⟨_, by rw [hu.1.1], hu.1.2⟩
        obtain ⟨a, rfl, wa⟩ := one x lx hx
        obtain ⟨b, rfl, wb⟩ := one y ly hy
        exact ⟨a, b, rfl, wa, wb⟩
  · cases h
theorem key2_inv {v : Value} {kl : Lit} (h : keyOf Try.prog 113 v = some kl) : ∃ a b, v = .agg #[.int .i64 (a), .int .i64 (b)] ∧ I64 a ∧ I64 b ∧ kl = key2 a b := by
  obtain ⟨a, b, rfl, wa, wb⟩ := pair_inv arr113 Try.underlying3 types1 h
  refine ⟨a, b, rfl, I64.of_wf wa, I64.of_wf wb, ?_⟩
  have := key2_of (I64.of_wf wa) (I64.of_wf wb)
  rw [h] at this
  simpa using this
end Go.Proofs.Qxb6500716a
