/-
  A robot's spans: append.
-/
import Derived.Test.Qxb6500717aGreatFree
namespace Go.Proofs.Qxb6500717aGreat
open Go.RowKit
set_option linter.unusedSimpArgs false
set_option linter.unusedVariables false

theorem own_pad {w : World} {base : Nat} {e : TypeId} {v : Value} {n : Nat} {xs : List Value} (h : w.ownsRow base e 3 v n xs) (hn : 0 < n) :
    ∃ g cap, v = .slice (some ⟨g, 0, none⟩) n cap ∧ n ≤ cap ∧ base ≤ g ∧ Pad w g (3 * cap) xs := by
  obtain ⟨h1, h2⟩ := h
  rcases h2 with ⟨_, h2⟩ | ⟨g, cap, cur, hv, hg, hh, hnc, _, hsz, ht⟩
  · omega
  · refine ⟨g, cap, hv, hnc, hg, (Array.getElem?_eq_some_iff.1 hh).1, fun j hj => ?_, fun j hj => ?_, fun j u hu => ?_, by omega⟩
    · rw [cell_of_row _ _ j cur e (0, 0) hh, Array.getElem?_eq_getElem (by omega)]; rfl
    · unfold World.frozen?; simp only [hh]; simp
    · rw [cell_of_row _ _ j cur e (0, 0) hh]
      rw [← ht, List.getElem?_take] at hu
      split at hu
      · simpa using hu
      · cases hu

theorem nil_own3 (w : World) (base : Nat) (e : TypeId) : w.ownsRow base e 3 (.slice none 0 0) 0 [] := ⟨rfl, Or.inl ⟨rfl, rfl⟩⟩

theorem srow_app (l m : List (Nat × Nat × Nat)) : srow (l ++ m) = srow l ++ srow m := by simp [srow]

/-- 'append' onto a robot's spans, as one step of a region that draws its order. -/
theorem step_sp {w : World} {ops : Array Oper} {o : Oper} {a : Act} {K : Act → World → Prop} {Q : Exit → Act → World → Prop} {E : Prop} (hgd : o.guard = none) (s x : Operand)
    (ho : o.op = .call { callee := .builtin .append, args := #[s, x], argTypes := #[105, 105] })
    (lab : Nat → Nat) (tag : Nat) (v : Value) (l : List (Nat × Nat × Nat)) (hs : a.eval s = v) (hsp : SpAt w lab tag v l) (hl : l.length ≤ 100000)
    (b2 : Nat) (y : Nat × Nat × Nat) (hx : a.eval x = .slice (some ⟨b2, 0, none⟩) 1 1) (h0 : w.cell? ⟨b2, 0, none⟩ = some (.int .i64 (y.1))) (h1 : w.cell? ⟨b2, 1, none⟩ = some (.int .i64 (y.2.1))) (h2 : w.cell? ⟨b2, 2, none⟩ = some (.int .i64 (y.2.2)))
    (h : ∀ v' w' lab', SpAt w' lab' tag v' (l ++ [y]) → (∀ k, k < w.heap.size → lab' k = lab k) → KeptL lab (fun z => z = tag) w w' → K (a.put o.dst v') w') : if Region.wanted o (yielded ops a.tmps) = true then Oper.wp Tryz.prog o a w K Q else E := by
  have hnews : ∀ (j : Nat) (u : Value), (srow [y])[j]? = some u → w.cell? ⟨b2, 0 + j, none⟩ = some u := by
    intro j u hj
    have hj2 := (List.getElem?_eq_some_iff.1 hj).1
    simp [srow] at hj2
    rcases (by omega : j = 0 ∨ j = 1 ∨ j = 2) with rfl | rfl | rfl <;> simp [srow] at hj <;> subst hj <;> simpa
  have hone : ∀ u ∈ srow [y], u.oneCell' = true := by simp [srow, Value.oneCell']
  obtain ⟨ao, cap, hv, hlc, hc⟩ := hsp.ex
  -- a new row
  have fresh : ∀ v' w', w'.ownsRow w.heap.size 107 3 v' (l.length + 1) (srow l ++ srow [y]) → Below w.heap.size w w' → K (a.put o.dst v') w' := by
    intro v' w' hown hB
    obtain ⟨g, cap', rfl, hnc, hg, hpad⟩ := own_pad hown (by omega)
    refine h _ w' (upd lab g tag) ⟨_, cap', by rw [List.length_append]; rfl, by simp; omega, Or.inr ⟨g, rfl, ⟨upd_at _ _ _, by omega⟩, by rw [srow_app]; exact hpad⟩⟩ (fun k hk => upd_ne _ _ (by omega)) (KeptL.of_below hB)
  rcases hc with ⟨rfl, rfl⟩ | ⟨b, rfl, hlab, hpad⟩
  · have hnil : l = [] := List.length_eq_zero_iff.1 (by omega)
    subst hnil
    refine step_app hgd s x 105 ho w.heap.size 107 (.agg #[.int .i64 (0), .int .i64 (0), .int .i64 (0)]) 3 24 Tryz.underlying105 (by kernel_rfl) rfl (by decide) _ 0 [] hs ?_ b2 0 1 1 (srow [y]) hx rfl hnews hone (by omega) (by omega) (Nat.le_refl _) ?_
    · rw [hv]; exact nil_own3 _ _ _
    · intro v' w' hown hB
      exact fresh v' w' hown hB
  · rw [hv] at hs
    obtain ⟨i, hi, hz0, hz1, hz2⟩ := info_parts (P := Tryz.prog) (e := 107) (z := .agg #[.int .i64 (0), .int .i64 (0), .int .i64 (0)]) (size := 3) (bytes := 24) (by kernel_rfl)
    by_cases hroom : l.length + 1 ≤ cap
    · refine step_append_room hgd s x 105 ho 107 i 3 Tryz.underlying105 hi hz1 b 0 l.length cap hs ⟨b2, 0, none⟩ 1 1 (srow [y]) hx rfl (fun j u hj => by rw [Addr.add_lit]; exact hnews j u hj) hone hroom (fun j hj => ?_) ?_
      · rw [srow_len] at hj
        simp at hj
        rw [Nat.zero_add, Nat.mul_comm]
        exact ⟨hpad.has _ (by omega), hpad.fz _ (by omega)⟩
      · have hp := hpad.push (srow [y]) (by rw [srow_len, srow_len]; simp; omega)
        rw [srow_len] at hp
        rw [Nat.zero_add, Nat.mul_comm]
        refine h _ _ lab ⟨_, cap, by rw [List.length_append]; rfl, by simpa using hroom, Or.inr ⟨b, rfl, hlab, by rw [srow_app]; exact hp⟩⟩ (fun _ _ => rfl) (KeptL.of_but (setCells_kept b _ _ w) hlab.1)
    · have hw : Region.wanted o (yielded ops a.tmps) = true := by simp [Region.wanted, hgd]
      rw [if_pos hw]
      obtain ⟨v', w', hrun, r1, r2⟩ := run_append_arg_grows (P := Tryz.prog) w 105 o.type 107 i (.agg #[.int .i64 (0), .int .i64 (0), .int .i64 (0)]) 3 24 Tryz.underlying105 hi hz0 hz1 hz2 rfl (by omega) ⟨b, 0, none⟩ l.length cap (srow l) (by rw [srow_len]; omega) (fun j u hj => by rw [Addr.add_lit, Nat.zero_add]; exact hpad.is j u hj) ⟨b2, 0, none⟩ 1 1 (srow [y]) rfl (fun j u hj => by rw [Addr.add_lit]; exact hnews j u hj) (by omega) (by simp only [maxLen]; omega) (by omega)
      unfold Oper.wp
      simp [execOp, ho, resolve, invoke, builtin, hs, hx, hrun, Result.andThen]
      exact fresh v' w' r1 ((Below.refl w.heap.size w).grown r2 (Nat.le_refl _) (fun k hk => by cases hk))

/-- The same where it comes up by itself. -/
theorem wp_sp {w : World} {o : Oper} {a : Act} {K : Act → World → Prop} {Q : Exit → Act → World → Prop} (hgd : o.guard = none) (s x : Operand)
    (ho : o.op = .call { callee := .builtin .append, args := #[s, x], argTypes := #[105, 105] })
    (lab : Nat → Nat) (tag : Nat) (v : Value) (l : List (Nat × Nat × Nat)) (hs : a.eval s = v) (hsp : SpAt w lab tag v l) (hl : l.length ≤ 100000)
    (b2 : Nat) (y : Nat × Nat × Nat) (hx : a.eval x = .slice (some ⟨b2, 0, none⟩) 1 1) (h0 : w.cell? ⟨b2, 0, none⟩ = some (.int .i64 (y.1))) (h1 : w.cell? ⟨b2, 1, none⟩ = some (.int .i64 (y.2.1))) (h2 : w.cell? ⟨b2, 2, none⟩ = some (.int .i64 (y.2.2)))
    (h : ∀ v' w' lab', SpAt w' lab' tag v' (l ++ [y]) → (∀ k, k < w.heap.size → lab' k = lab k) → KeptL lab (fun z => z = tag) w w' → K (a.put o.dst v') w') : Oper.wp Tryz.prog o a w K Q := by
  have := step_sp (ops := #[]) (E := True) (Q := Q) hgd s x ho lab tag v l hs hsp hl b2 y hx h0 h1 h2 h
  rwa [if_pos (by simp [Region.wanted, hgd])] at this
end Go.Proofs.Qxb6500717aGreat
