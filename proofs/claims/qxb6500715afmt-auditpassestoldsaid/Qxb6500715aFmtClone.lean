/-
  Clone of a layout.
-/
import Derived.Test.Qxb6500715aFmtStand
namespace Go.Proofs.Qxb6500715aFmt
open Go.RowKit
set_option linter.unusedSimpArgs false
set_option linter.unusedVariables false

def clonePost (A S P D r c : Int) (n : Nat) (px py : Nat → Int) (w : World) (e : Ending) (w' : World) : Prop :=
  ∃ qb cp : Nat, n ≤ cp ∧ w.heap.size ≤ qb ∧ qb < w'.heap.size ∧ (∀ i, i < n → w'.cell? ⟨qb, i * 2, none⟩ = some (.int .i64 (px i))) ∧ (∀ i, i < n → w'.cell? ⟨qb, i * 2 + 1, none⟩ = some (.int .i64 (py i))) ∧
    e = .returned (.agg #[.int .i64 (A), .int .i64 (S), .int .i64 (P), .int .i64 (D), .int .i64 (r), .int .i64 (c), .slice (some ⟨qb, 0, none⟩) n cp]) ∧ ∃ z, w' = w.ext z
theorem rowP_at (px py : Nat → Int) (n j : Nat) (u : Value) (h : (rowP px py n)[j]? = some u) : ∃ i, i < n ∧ ((j = i * 2 ∧ u = .int .i64 (px i)) ∨ (j = i * 2 + 1 ∧ u = .int .i64 (py i))) := by
  have hl := rowP_len px py n
  have hj : j < (rowP px py n).length := (List.getElem?_eq_some_iff.1 h).1
  have hg := rowP_get px py n (j / 2) (by omega)
  refine ⟨j / 2, by omega, ?_⟩
  rcases (by omega : j = j / 2 * 2 ∨ j = j / 2 * 2 + 1) with hj2 | hj2
  · left; refine ⟨hj2, ?_⟩
    rw [← hj2, h] at hg; exact Option.some.inj hg.1
  · right; refine ⟨hj2, ?_⟩
    rw [← hj2, h] at hg; exact Option.some.inj hg.2
theorem rowP_one (px py : Nat → Int) (n : Nat) : ∀ u ∈ rowP px py n, u.oneCell' = true := by
  intro u hu
  obtain ⟨j, hj⟩ := List.mem_iff_getElem?.1 hu
  obtain ⟨i, _, ⟨_, rfl⟩ | ⟨_, rfl⟩⟩ := rowP_at px py n j u hj <;> rfl

theorem is_ext_eq {B : Nat} {w w' : World} (h : Below B w w') (hB : B = w.heap.size) : ∃ z, w' = w.ext z := by subst hB; exact h.is_ext

set_option maxHeartbeats 1000000 in
theorem clone_any (A S P D r c : Int) (pb po n cap : Nat) (px py : Nat → Int) (w : World) (hn : 1 ≤ n ∧ n ≤ 1000) (hnc : n ≤ cap) (hpb : pb < w.heap.size)
    (hc0 : ∀ i, i < n → w.cell? ⟨pb, po + i * 2, none⟩ = some (.int .i64 (px i))) (hc1 : ∀ i, i < n → w.cell? ⟨pb, po + i * 2 + 1, none⟩ = some (.int .i64 (py i))) :
    Calls Tryf.prog 47 #[.agg #[.int .i64 A, .int .i64 S, .int .i64 P, .int .i64 D, .int .i64 r, .int .i64 c, .slice (some ⟨pb, po, none⟩) n cap]] w (clonePost A S P D r c n px py w) := by
  go_enter Tryf.func47, Tryf.ntmps47
  go_wp2_with (at_builtin; refine hold ?_)
  show wpList _ _ _ _ _ _
  refine wp_app rfl _ _ 44 rfl (w.heap.size + 1 + 1 + 1) 43 (.agg #[.int .i64 (0), .int .i64 (0)]) 2 16 Tryf.underlying44 (by kernel_rfl) rfl (by decide) _ 0 [] rfl ownsRow_nil pb po n cap (rowP px py n) rfl (rowP_len px py n) ?_ (rowP_one px py n) (by omega) (by omega) ?_ ?_
  · intro j u hj
    obtain ⟨i, hi, ⟨rfl, rfl⟩ | ⟨rfl, rfl⟩⟩ := rowP_at px py n j u hj
    · simp [go_sem, ↓IntWalk.iteOmega]; exact hc0 i hi
    · rw [← Nat.add_assoc]; simp [go_sem, ↓IntWalk.iteOmega]; exact hc1 i hi
  · (first | omega | (simp only [World.size_ext, World.size_alloc, World.size_setCell, World.size_drew, Array.size_append]; done) | (simp only [World.size_ext, World.size_alloc, World.size_setCell, World.size_drew, Array.size_append]; omega))
  intro v1 w1 hown hb
  rw [List.nil_append, Nat.zero_add] at hown
  obtain ⟨qb, cp, rfl, hcp, hqb, hqb', hqc⟩ := ownsRow_cells2 hown (by omega)
  have QC := hid hqc
  obtain ⟨z1, rfl⟩ := is_ext_eq hb (by simp)
  have hq2 : qb < w.heap.size + 1 + 1 + 1 + z1.heap.size := by simpa [Nat.add_assoc] using hqb'
  clear hown hqc hqb' hb
  go_wp2
  refine bodyPost_ret (v := .agg #[.int .i64 (A), .int .i64 (S), .int .i64 (P), .int .i64 (D), .int .i64 (r), .int .i64 (c), .slice (some ⟨qb, 0, none⟩) n cp]) (by simp [results, Tryf.results47, go_sem, ↓IntWalk.iteOmega]) rfl ⟨qb, cp, hcp, by omega, ?_, ?_, ?_, rfl, ?_⟩
  · (first | omega | (simp only [World.size_ext, World.size_alloc, World.size_setCell, World.size_drew, Array.size_append]; done) | (simp only [World.size_ext, World.size_alloc, World.size_setCell, World.size_drew, Array.size_append]; omega))
  · intro i hi
    exact cell_swap (QC.out _ _ (rowP_get px py n i hi).1) (by simp) (by simpa using hqb) (by simpa [Nat.add_assoc] using hq2) (fun _ _ => rfl)
  · intro i hi
    exact cell_swap (QC.out _ _ (rowP_get px py n i hi).2) (by simp) (by simpa using hqb) (by simpa [Nat.add_assoc] using hq2) (fun _ _ => rfl)
  · refine Below.is_ext ?_
    repeat (first | with_reducible exact Below.rf _ | with_reducible exact World.below_ext _ _ | with_reducible refine Below.ex ?_ _ | with_reducible refine Below.al ?_ _ | with_reducible refine Below.setCell ?_ (by simp) _ | with_reducible refine Below.drew ?_)
end Go.Proofs.Qxb6500715aFmt
