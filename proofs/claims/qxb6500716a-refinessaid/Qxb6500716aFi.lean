/-
  newEstimate: the walk.
-/
import Derived.Test.Qxb6500716aFh
namespace Go.Proofs.Qxb6500716a
open Go.RowKit Go.Maps
set_option linter.unusedSimpArgs false
set_option linter.unusedVariables false
set_option maxRecDepth 20000
set_option maxHeartbeats 4000000

def estP (F : FS) (bay : Int) (gl : List (Int × Int)) (w w' : World) (tv av : Value) : Prop :=
  Below w.heap.size w w' ∧ ∀ lab : Nat → Nat, (∀ k, w.heap.size ≤ k → lab k = 0) → Ints w' lab tv (etl bay gl) ∧ Ints w' lab av (eal F bay gl)
def newEstPost (fb : Nat) (F : FS) (bay : Int) (gl : List (Int × Int)) (w : World) (e : Ending) (w' : World) : Prop := ∃ tv av, e = .returned (.agg #[.pointer (some ⟨fb, 0, none⟩), tv, av]) ∧ estP F bay gl w w' tv av
def estR (k fb : Nat) (w : World) (a a' : Act) (w3 : World) : Prop :=
  ∃ tb ab eb, (w.heap.size ≤ tb ∧ w.heap.size ≤ ab ∧ w.heap.size ≤ eb ∧ tb ≠ ab ∧ tb ≠ eb ∧ ab ≠ eb) ∧ Blk w3 tb (k + 1) (fun _ => .int .i64 (0)) ∧ Blk w3 ab (k + 1) (fun _ => .int .i64 (0)) ∧ Blk w3 eb 3 (fc (.pointer (some ⟨fb, 0, none⟩)) (.slice (some ⟨tb, 0, none⟩) (k + 1) (k + 1)) (.slice (some ⟨ab, 0, none⟩) (k + 1) (k + 1)) undef) ∧ Below w.heap.size w w3 ∧
    a' = ((((((((a.put (some 13) (.pointer (some ⟨fb, 0, none⟩))).put (some 14) (.int .i64 (k))).put (some 15) (.int .i64 ((k : Int) + 1))).put (some 16) (.slice (some ⟨tb, 0, none⟩) (k + 1) (k + 1))).put (some 17) (.int .i64 (k))).put (some 18) (.int .i64 ((k : Int) + 1))).put (some 19) (.slice (some ⟨ab, 0, none⟩) (k + 1) (k + 1))).put (some 20) (.agg #[.pointer (some ⟨fb, 0, none⟩), .slice (some ⟨tb, 0, none⟩) (k + 1) (k + 1), .slice (some ⟨ab, 0, none⟩) (k + 1) (k + 1)])).put (some 8) (.pointer (some ⟨eb, 0, none⟩))
def tgf (bay : Int) (gl : List (Int × Int)) (j i : Nat) : Value := if j ≤ i then .int .i64 (ETg bay (gl.drop i)) else .int .i64 (0)
def aff (F : FS) (bay : Int) (gl : List (Int × Int)) (j i : Nat) : Value := if j ≤ i then .int .i64 ((EAf F bay (gl.drop i) : Int)) else .int .i64 (0)
theorem newEst_any (fb : Nat) (F : FS) (lab : Nat → Nat) (v : Value) (bay : Int) (gl : List (Int × Int)) (w : World) (hF : FAt w lab fb F) (hg : GAt w lab v gl) (hok : F.gok gl) (hb : 0 ≤ bay ∧ bay < (F.n : Int)) :
    Calls Try.prog 60 #[.pointer (some ⟨fb, 0, none⟩), v, .int .i64 (bay)] w (newEstPost fb F bay gl w) := by
  obtain ⟨ao, cap, rfl, hcap⟩ := hg.ex
  have HG := hid hg
  have HOK := hid hok
  have HFA := hid hF
  have HBY := hid hb
  obtain ⟨k, hk⟩ : ∃ n, gl.length = n := ⟨_, rfl⟩
  have hk16 : k ≤ 16 := by rw [← hk]; exact hok.1
  have hn384 := hF.ok.n
  rw [hk] at hcap HG ⊢
  have HN := hid hk
  have hfl := hF.lt
  obtain ⟨Z, hz1, hz2, hz3⟩ := make_is (P := Try.prog) 32 3 (.int .i64 (0)) 1 8 Try.underlying32 (by kernel_rfl) (k + 1) (by omega) (by omega)
  have hz4 : ∀ (kl kc : IntKind) (w : World), (Instr.makeSlice 32 (.int kl ((k : Int) + 1)) (.int kc ((k : Int) + 1))).run Try.prog w = .ok (.slice (some ⟨w.heap.size, 0, none⟩) (k + 1) (k + 1)) (w.alloc (.cells Z 3)) := hz3
  have hw1 : IntKind.i64.wrap ((k : Int) + 1) = (k : Int) + 1 := by simp [IntKind.wrap, IntKind.bits, IntKind.signed]; omega
  have HZ := hid hz2
  clear hg hok hF hb hk hz2 hz3 hz1
  go_enter Try.func60, Try.ntmps60
  go_wp2
  refine region_via (estR k fb (w.alloc (Obj.cells #[.pointer none, .slice none 0 0, .slice none 0 0] 62))) ?_ ?_
  · generalize (w.alloc (Obj.cells #[.pointer none, .slice none 0 0, .slice none 0 0] 62)) = w1 at *
    refine wp_region_tree 9 (fun _ => True) (.q 0 false (.q 1 false (.q 2 false (.q 4 false (.q 5 false (.three 3 6 8 (.two 6 8 (.q 7 false (.one 8 true (.one 9 false .nil))) (.one 6 true (.q 7 false (.one 9 false .nil)))) (.two 3 8 (.q 7 false (.one 8 true (.one 9 false .nil))) (.one 3 true (.q 7 false (.one 9 false .nil)))) (.two 3 6 (.one 6 true (.q 7 false (.one 9 false .nil))) (.one 3 true (.q 7 false (.one 9 false .nil)))))))))) (by kernel_rfl) (by kernel_rfl) (by kernel_rfl) ?_ ?_
    · simp [go_sem, ↓IntWalk.iteOmega, *]
    repeat (first | (refine wpTr_qf (v := ?_) rfl rfl ?_ ?_; rotate_left; focus (intro w; go_simp; (try (with_reducible rfl)); done); try simp only [List.getElem_toArray, List.getElem_cons_zero, List.getElem_cons_succ, Act.put, List.setIfInBounds_toArray, List.set_cons_zero, List.set_cons_succ]) | (refine wpTr_qt (v := ?_) rfl rfl ?_ ?_; rotate_left; focus (intro w hSw; (try dsimp only at hSw); go_simp; (try (with_reducible rfl)); done); try simp only [List.getElem_toArray, List.getElem_cons_zero, List.getElem_cons_succ, Act.put, List.setIfInBounds_toArray, List.set_cons_zero, List.set_cons_succ]))
    refine wpTr_three rfl rfl rfl rfl rfl rfl ?_ ?_ ?_
    · intro K hK
      go_simp
      refine hK.out _ _ trivial ?_
      clear hK K
      refine wpTr_two rfl rfl rfl rfl ?_ ?_
      · intro K hK
        go_simp
        refine hK.out _ _ trivial ?_
        clear hK K
        repeat (first | (refine wpTr_qf (v := ?_) rfl rfl ?_ ?_; rotate_left; focus (intro w; go_simp; (try (with_reducible rfl)); done); try simp only [List.getElem_toArray, List.getElem_cons_zero, List.getElem_cons_succ, Act.put, List.setIfInBounds_toArray, List.set_cons_zero, List.set_cons_succ]) | (refine wpTr_qt (v := ?_) rfl rfl ?_ ?_; rotate_left; focus (intro w hSw; (try dsimp only at hSw); go_simp; (try (with_reducible rfl)); done); try simp only [List.getElem_toArray, List.getElem_cons_zero, List.getElem_cons_succ, Act.put, List.setIfInBounds_toArray, List.set_cons_zero, List.set_cons_succ]))
        refine wpTr_one rfl rfl (fun K hK => ?_)
        go_simp
        refine hK.out _ _ (fun _ => by simp [go_sem, ↓IntWalk.iteOmega, *]) ?_
        clear hK K
        repeat (first | (refine wpTr_qf (v := ?_) rfl rfl ?_ ?_; rotate_left; focus (intro w; go_simp; (try (with_reducible rfl)); done); try simp only [List.getElem_toArray, List.getElem_cons_zero, List.getElem_cons_succ, Act.put, List.setIfInBounds_toArray, List.set_cons_zero, List.set_cons_succ]) | (refine wpTr_qt (v := ?_) rfl rfl ?_ ?_; rotate_left; focus (intro w hSw; (try dsimp only at hSw); go_simp; (try (with_reducible rfl)); done); try simp only [List.getElem_toArray, List.getElem_cons_zero, List.getElem_cons_succ, Act.put, List.setIfInBounds_toArray, List.set_cons_zero, List.set_cons_succ]))
        refine wpTr_one rfl rfl (fun K hK => ?_)
        go_simp
        refine hK.out _ _ (fun h => by cases h) ?_
        clear hK K
        refine wpTr_nil ?_
        refine NoPanic.normal ?_
        refine ⟨rfl, w1.heap.size, w1.heap.size + 1, w1.heap.size + 1 + 1, ⟨by omega, by omega, by omega, by omega, by omega, by omega⟩, ⟨by (simp <;> omega), fun i hi => by simp [go_sem, ↓IntWalk.iteOmega, HZ.out, hi, made1], fun i hi => by simp [go_sem, ↓IntWalk.iteOmega]⟩, ⟨by (simp <;> omega), fun i hi => by simp [go_sem, ↓IntWalk.iteOmega, HZ.out, hi, made1], fun i hi => by simp [go_sem, ↓IntWalk.iteOmega]⟩, ⟨by (simp <;> omega), fun i hi => by (rcases (by omega : i = 0 ∨ i = 1 ∨ i = 2) with rfl | rfl | rfl <;> simp [go_sem, ↓IntWalk.iteOmega, fc]), fun i hi => by simp [go_sem, ↓IntWalk.iteOmega]⟩, by (repeat (first | with_reducible exact Below.rf _ | with_reducible exact World.below_ext _ _ | with_reducible refine Below.ex ?_ _ | with_reducible refine Below.al ?_ _ | with_reducible refine Below.setCell ?_ (by simp) _ | with_reducible refine Below.drew ?_)), by simp only [Act.put, List.setIfInBounds_toArray, List.set_cons_zero, List.set_cons_succ]⟩
      · intro K hK
        go_simp
        refine hK.out _ _ trivial ?_
        clear hK K
        refine wpTr_one rfl rfl (fun K hK => ?_)
        go_simp
        refine hK.out _ _ (fun _ => by simp [go_sem, ↓IntWalk.iteOmega, *]) ?_
        clear hK K
        repeat (first | (refine wpTr_qf (v := ?_) rfl rfl ?_ ?_; rotate_left; focus (intro w; go_simp; (try (with_reducible rfl)); done); try simp only [List.getElem_toArray, List.getElem_cons_zero, List.getElem_cons_succ, Act.put, List.setIfInBounds_toArray, List.set_cons_zero, List.set_cons_succ]) | (refine wpTr_qt (v := ?_) rfl rfl ?_ ?_; rotate_left; focus (intro w hSw; (try dsimp only at hSw); go_simp; (try (with_reducible rfl)); done); try simp only [List.getElem_toArray, List.getElem_cons_zero, List.getElem_cons_succ, Act.put, List.setIfInBounds_toArray, List.set_cons_zero, List.set_cons_succ]))
        refine wpTr_one rfl rfl (fun K hK => ?_)
        go_simp
        refine hK.out _ _ (fun h => by cases h) ?_
        clear hK K
        refine wpTr_nil ?_
        refine NoPanic.normal ?_
        refine ⟨rfl, w1.heap.size, w1.heap.size + 1 + 1, w1.heap.size + 1, ⟨by omega, by omega, by omega, by omega, by omega, by omega⟩, ⟨by (simp <;> omega), fun i hi => by simp [go_sem, ↓IntWalk.iteOmega, HZ.out, hi, made1], fun i hi => by simp [go_sem, ↓IntWalk.iteOmega]⟩, ⟨by (simp <;> omega), fun i hi => by simp [go_sem, ↓IntWalk.iteOmega, HZ.out, hi, made1], fun i hi => by simp [go_sem, ↓IntWalk.iteOmega]⟩, ⟨by (simp <;> omega), fun i hi => by (rcases (by omega : i = 0 ∨ i = 1 ∨ i = 2) with rfl | rfl | rfl <;> simp [go_sem, ↓IntWalk.iteOmega, fc]), fun i hi => by simp [go_sem, ↓IntWalk.iteOmega]⟩, by (repeat (first | with_reducible exact Below.rf _ | with_reducible exact World.below_ext _ _ | with_reducible refine Below.ex ?_ _ | with_reducible refine Below.al ?_ _ | with_reducible refine Below.setCell ?_ (by simp) _ | with_reducible refine Below.drew ?_)), by simp only [Act.put, List.setIfInBounds_toArray, List.set_cons_zero, List.set_cons_succ]⟩
    · intro K hK
      go_simp
      refine hK.out _ _ trivial ?_
      clear hK K
      refine wpTr_two rfl rfl rfl rfl ?_ ?_
      · intro K hK
        go_simp
        refine hK.out _ _ trivial ?_
        clear hK K
        repeat (first | (refine wpTr_qf (v := ?_) rfl rfl ?_ ?_; rotate_left; focus (intro w; go_simp; (try (with_reducible rfl)); done); try simp only [List.getElem_toArray, List.getElem_cons_zero, List.getElem_cons_succ, Act.put, List.setIfInBounds_toArray, List.set_cons_zero, List.set_cons_succ]) | (refine wpTr_qt (v := ?_) rfl rfl ?_ ?_; rotate_left; focus (intro w hSw; (try dsimp only at hSw); go_simp; (try (with_reducible rfl)); done); try simp only [List.getElem_toArray, List.getElem_cons_zero, List.getElem_cons_succ, Act.put, List.setIfInBounds_toArray, List.set_cons_zero, List.set_cons_succ]))
        refine wpTr_one rfl rfl (fun K hK => ?_)
        go_simp
        refine hK.out _ _ (fun _ => by simp [go_sem, ↓IntWalk.iteOmega, *]) ?_
        clear hK K
        repeat (first | (refine wpTr_qf (v := ?_) rfl rfl ?_ ?_; rotate_left; focus (intro w; go_simp; (try (with_reducible rfl)); done); try simp only [List.getElem_toArray, List.getElem_cons_zero, List.getElem_cons_succ, Act.put, List.setIfInBounds_toArray, List.set_cons_zero, List.set_cons_succ]) | (refine wpTr_qt (v := ?_) rfl rfl ?_ ?_; rotate_left; focus (intro w hSw; (try dsimp only at hSw); go_simp; (try (with_reducible rfl)); done); try simp only [List.getElem_toArray, List.getElem_cons_zero, List.getElem_cons_succ, Act.put, List.setIfInBounds_toArray, List.set_cons_zero, List.set_cons_succ]))
        refine wpTr_one rfl rfl (fun K hK => ?_)
        go_simp
        refine hK.out _ _ (fun h => by cases h) ?_
        clear hK K
        refine wpTr_nil ?_
        refine NoPanic.normal ?_
        refine ⟨rfl, w1.heap.size + 1, w1.heap.size, w1.heap.size + 1 + 1, ⟨by omega, by omega, by omega, by omega, by omega, by omega⟩, ⟨by (simp <;> omega), fun i hi => by simp [go_sem, ↓IntWalk.iteOmega, HZ.out, hi, made1], fun i hi => by simp [go_sem, ↓IntWalk.iteOmega]⟩, ⟨by (simp <;> omega), fun i hi => by simp [go_sem, ↓IntWalk.iteOmega, HZ.out, hi, made1], fun i hi => by simp [go_sem, ↓IntWalk.iteOmega]⟩, ⟨by (simp <;> omega), fun i hi => by (rcases (by omega : i = 0 ∨ i = 1 ∨ i = 2) with rfl | rfl | rfl <;> simp [go_sem, ↓IntWalk.iteOmega, fc]), fun i hi => by simp [go_sem, ↓IntWalk.iteOmega]⟩, by (repeat (first | with_reducible exact Below.rf _ | with_reducible exact World.below_ext _ _ | with_reducible refine Below.ex ?_ _ | with_reducible refine Below.al ?_ _ | with_reducible refine Below.setCell ?_ (by simp) _ | with_reducible refine Below.drew ?_)), by simp only [Act.put, List.setIfInBounds_toArray, List.set_cons_zero, List.set_cons_succ]⟩
      · intro K hK
        go_simp
        refine hK.out _ _ trivial ?_
        clear hK K
        refine wpTr_one rfl rfl (fun K hK => ?_)
        go_simp
        refine hK.out _ _ (fun _ => by simp [go_sem, ↓IntWalk.iteOmega, *]) ?_
        clear hK K
        repeat (first | (refine wpTr_qf (v := ?_) rfl rfl ?_ ?_; rotate_left; focus (intro w; go_simp; (try (with_reducible rfl)); done); try simp only [List.getElem_toArray, List.getElem_cons_zero, List.getElem_cons_succ, Act.put, List.setIfInBounds_toArray, List.set_cons_zero, List.set_cons_succ]) | (refine wpTr_qt (v := ?_) rfl rfl ?_ ?_; rotate_left; focus (intro w hSw; (try dsimp only at hSw); go_simp; (try (with_reducible rfl)); done); try simp only [List.getElem_toArray, List.getElem_cons_zero, List.getElem_cons_succ, Act.put, List.setIfInBounds_toArray, List.set_cons_zero, List.set_cons_succ]))
        refine wpTr_one rfl rfl (fun K hK => ?_)
        go_simp
        refine hK.out _ _ (fun h => by cases h) ?_
        clear hK K
        refine wpTr_nil ?_
        refine NoPanic.normal ?_
        refine ⟨rfl, w1.heap.size + 1 + 1, w1.heap.size, w1.heap.size + 1, ⟨by omega, by omega, by omega, by omega, by omega, by omega⟩, ⟨by (simp <;> omega), fun i hi => by simp [go_sem, ↓IntWalk.iteOmega, HZ.out, hi, made1], fun i hi => by simp [go_sem, ↓IntWalk.iteOmega]⟩, ⟨by (simp <;> omega), fun i hi => by simp [go_sem, ↓IntWalk.iteOmega, HZ.out, hi, made1], fun i hi => by simp [go_sem, ↓IntWalk.iteOmega]⟩, ⟨by (simp <;> omega), fun i hi => by (rcases (by omega : i = 0 ∨ i = 1 ∨ i = 2) with rfl | rfl | rfl <;> simp [go_sem, ↓IntWalk.iteOmega, fc]), fun i hi => by simp [go_sem, ↓IntWalk.iteOmega]⟩, by (repeat (first | with_reducible exact Below.rf _ | with_reducible exact World.below_ext _ _ | with_reducible refine Below.ex ?_ _ | with_reducible refine Below.al ?_ _ | with_reducible refine Below.setCell ?_ (by simp) _ | with_reducible refine Below.drew ?_)), by simp only [Act.put, List.setIfInBounds_toArray, List.set_cons_zero, List.set_cons_succ]⟩
    · intro K hK
      go_simp
      refine hK.out _ _ trivial ?_
      clear hK K
      refine wpTr_two rfl rfl rfl rfl ?_ ?_
      · intro K hK
        go_simp
        refine hK.out _ _ trivial ?_
        clear hK K
        refine wpTr_one rfl rfl (fun K hK => ?_)
        go_simp
        refine hK.out _ _ (fun _ => by simp [go_sem, ↓IntWalk.iteOmega, *]) ?_
        clear hK K
        repeat (first | (refine wpTr_qf (v := ?_) rfl rfl ?_ ?_; rotate_left; focus (intro w; go_simp; (try (with_reducible rfl)); done); try simp only [List.getElem_toArray, List.getElem_cons_zero, List.getElem_cons_succ, Act.put, List.setIfInBounds_toArray, List.set_cons_zero, List.set_cons_succ]) | (refine wpTr_qt (v := ?_) rfl rfl ?_ ?_; rotate_left; focus (intro w hSw; (try dsimp only at hSw); go_simp; (try (with_reducible rfl)); done); try simp only [List.getElem_toArray, List.getElem_cons_zero, List.getElem_cons_succ, Act.put, List.setIfInBounds_toArray, List.set_cons_zero, List.set_cons_succ]))
        refine wpTr_one rfl rfl (fun K hK => ?_)
        go_simp
        refine hK.out _ _ (fun h => by cases h) ?_
        clear hK K
        refine wpTr_nil ?_
        refine NoPanic.normal ?_
        refine ⟨rfl, w1.heap.size + 1, w1.heap.size + 1 + 1, w1.heap.size, ⟨by omega, by omega, by omega, by omega, by omega, by omega⟩, ⟨by (simp <;> omega), fun i hi => by simp [go_sem, ↓IntWalk.iteOmega, HZ.out, hi, made1], fun i hi => by simp [go_sem, ↓IntWalk.iteOmega]⟩, ⟨by (simp <;> omega), fun i hi => by simp [go_sem, ↓IntWalk.iteOmega, HZ.out, hi, made1], fun i hi => by simp [go_sem, ↓IntWalk.iteOmega]⟩, ⟨by (simp <;> omega), fun i hi => by (rcases (by omega : i = 0 ∨ i = 1 ∨ i = 2) with rfl | rfl | rfl <;> simp [go_sem, ↓IntWalk.iteOmega, fc]), fun i hi => by simp [go_sem, ↓IntWalk.iteOmega]⟩, by (repeat (first | with_reducible exact Below.rf _ | with_reducible exact World.below_ext _ _ | with_reducible refine Below.ex ?_ _ | with_reducible refine Below.al ?_ _ | with_reducible refine Below.setCell ?_ (by simp) _ | with_reducible refine Below.drew ?_)), by simp only [Act.put, List.setIfInBounds_toArray, List.set_cons_zero, List.set_cons_succ]⟩
      · intro K hK
        go_simp
        refine hK.out _ _ trivial ?_
        clear hK K
        refine wpTr_one rfl rfl (fun K hK => ?_)
        go_simp
        refine hK.out _ _ (fun _ => by simp [go_sem, ↓IntWalk.iteOmega, *]) ?_
        clear hK K
        repeat (first | (refine wpTr_qf (v := ?_) rfl rfl ?_ ?_; rotate_left; focus (intro w; go_simp; (try (with_reducible rfl)); done); try simp only [List.getElem_toArray, List.getElem_cons_zero, List.getElem_cons_succ, Act.put, List.setIfInBounds_toArray, List.set_cons_zero, List.set_cons_succ]) | (refine wpTr_qt (v := ?_) rfl rfl ?_ ?_; rotate_left; focus (intro w hSw; (try dsimp only at hSw); go_simp; (try (with_reducible rfl)); done); try simp only [List.getElem_toArray, List.getElem_cons_zero, List.getElem_cons_succ, Act.put, List.setIfInBounds_toArray, List.set_cons_zero, List.set_cons_succ]))
        refine wpTr_one rfl rfl (fun K hK => ?_)
        go_simp
        refine hK.out _ _ (fun h => by cases h) ?_
        clear hK K
        refine wpTr_nil ?_
        refine NoPanic.normal ?_
        refine ⟨rfl, w1.heap.size + 1 + 1, w1.heap.size + 1, w1.heap.size, ⟨by omega, by omega, by omega, by omega, by omega, by omega⟩, ⟨by (simp <;> omega), fun i hi => by simp [go_sem, ↓IntWalk.iteOmega, HZ.out, hi, made1], fun i hi => by simp [go_sem, ↓IntWalk.iteOmega]⟩, ⟨by (simp <;> omega), fun i hi => by simp [go_sem, ↓IntWalk.iteOmega, HZ.out, hi, made1], fun i hi => by simp [go_sem, ↓IntWalk.iteOmega]⟩, ⟨by (simp <;> omega), fun i hi => by (rcases (by omega : i = 0 ∨ i = 1 ∨ i = 2) with rfl | rfl | rfl <;> simp [go_sem, ↓IntWalk.iteOmega, fc]), fun i hi => by simp [go_sem, ↓IntWalk.iteOmega]⟩, by (repeat (first | with_reducible exact Below.rf _ | with_reducible exact World.below_ext _ _ | with_reducible refine Below.ex ?_ _ | with_reducible refine Below.al ?_ _ | with_reducible refine Below.setCell ?_ (by simp) _ | with_reducible refine Below.drew ?_)), by simp only [Act.put, List.setIfInBounds_toArray, List.set_cons_zero, List.set_cons_succ]⟩
  · rintro a w3 ⟨tb, ab, eb, ⟨ht1, ht2, ht3, n1, n2, n3⟩, hbt, hba, hbe, hB3, rfl⟩
    simp only [Act.put, List.setIfInBounds_toArray, List.set_cons_zero, List.set_cons_succ]
    have hbr : Blk (w.alloc (Obj.cells #[.pointer none, .slice none 0 0, .slice none 0 0] 62)) w.heap.size 3 (fc (.pointer none) (.slice none 0 0) (.slice none 0 0) undef) := ⟨by simp, fun i hi => by (rcases (by omega : i = 0 ∨ i = 1 ∨ i = 2) with rfl | rfl | rfl <;> simp [go_sem, ↓IntWalk.iteOmega, fc]), fun i hi => by simp [go_sem, ↓IntWalk.iteOmega]⟩
    simp only [World.size_alloc] at ht1 ht2 ht3
    have hB0 : Below w.heap.size w w3 := (((Below.rf w).al _)).trans (hB3.mono (by simp))
    have hbr3 := hbr.below hB3
    have c1 : w3.cell? ⟨eb, 1, none⟩ = some (.slice (some ⟨tb, 0, none⟩) (k + 1) (k + 1)) := hbe.is 1 (by omega)
    have ct := hbt.is k (by omega)
    have zt := hbt.fz k (by omega)
    have l1 := hbe.lt
    have l2 := hbt.lt
    have KT : Hid (Blk (w3.setCell ⟨tb, k, none⟩ (.int .i64 (bay))) tb (k + 1) (tgf bay gl k)) := (hbt.set k (.int .i64 (bay)) (by omega)).congr (fun i hi => by
      unfold upd tgf
      by_cases e : i = k
      · subst e
        rw [if_pos rfl, if_pos (Nat.le_refl _), List.drop_eq_nil_of_le (by rw [HN.out]; omega)]; rfl
      · rw [if_neg e, if_neg (by omega)])
    have KA : Hid (Blk (w3.setCell ⟨tb, k, none⟩ (.int .i64 (bay))) ab (k + 1) (aff F bay gl k)) := (hba.kept ((KeptBut.refl tb w3).set (Or.inl rfl) _) (by omega)).congr (fun i hi => by
      unfold aff
      by_cases e : i = k
      · subst e
        rw [if_pos (Nat.le_refl _), List.drop_eq_nil_of_le (by rw [HN.out]; omega)]; rfl
      · rw [if_neg (by omega)])
    have KE : Hid (Blk (w3.setCell ⟨tb, k, none⟩ (.int .i64 (bay))) eb 3 (fc (.pointer (some ⟨fb, 0, none⟩)) (.slice (some ⟨tb, 0, none⟩) (k + 1) (k + 1)) (.slice (some ⟨ab, 0, none⟩) (k + 1) (k + 1)) undef)) := hbe.kept ((KeptBut.refl tb w3).set (Or.inl rfl) _) (by omega)
    have KR : Hid (Blk (w3.setCell ⟨tb, k, none⟩ (.int .i64 (bay))) w.heap.size 3 (fc (.pointer none) (.slice none 0 0) (.slice none 0 0) undef)) := hbr3.kept ((KeptBut.refl tb w3).set (Or.inl rfl) _) (by omega)
    have KB : Hid (Below w.heap.size w (w3.setCell ⟨tb, k, none⟩ (.int .i64 (bay)))) := hB0.setCell (by simp; omega) _
    clear hbr hbr3 hB0 hB3 hbt hba hbe hz4 hw1
    go_wp2
    go_loopw [9] (fun x wr => ∃ (j : Nat) (y : Int), x = .int .i64 (y) ∧ y = (j : Int) - 1 ∧ j ≤ k ∧ Blk wr tb (k + 1) (tgf bay gl j) ∧ Blk wr ab (k + 1) (aff F bay gl j) ∧ Blk wr eb 3 (fc (.pointer (some ⟨fb, 0, none⟩)) (.slice (some ⟨tb, 0, none⟩) (k + 1) (k + 1)) (.slice (some ⟨ab, 0, none⟩) (k + 1) (k + 1)) undef) ∧ Blk wr w.heap.size 3 (fc (.pointer none) (.slice none 0 0) (.slice none 0 0) undef) ∧ Below w.heap.size w wr) (fun x _ => (intOf x + 1).toNat)
    case atStart => exact ⟨k, _, rfl, rfl, Nat.le_refl _, KT.out, KA.out, KE.out, KR.out, KB.out⟩
    case round =>
      obtain ⟨j, y, rfl, hy, hjk, h1, h2, h3, h4, h5⟩ := hrel
      have J1 := hid h1
      have J2 := hid h2
      have J3 := hid h3
      have J4 := hid h4
      have J5 := hid h5
      clear KT KA KE KR KB c1 ct zt l1 l2 w3
      cases j with
      | succ i =>
        obtain rfl : y = (i : Int) := by omega
        clear hy
        have hil : i < gl.length := by rw [HN.out]; omega
        have hx : gl[i]? = some gl[i] := List.getElem?_eq_getElem hil
        have hdr : gl.drop i = gl[i] :: gl.drop (i + 1) := List.drop_eq_getElem_cons hil
        generalize gl[i] = p at *
        have hpm := List.mem_of_getElem? hx
        obtain ⟨b, n', cap', hv, hbl, -, q1, q2⟩ := HG.out.row i p hx
        simp only [Value.slice.injEq] at hv
        obtain ⟨rfl, -, -⟩ := hv
        have r1 : wr.cell? ⟨b, i * 2, none⟩ = some (.int .i64 (p.1)) := (World.cell?_of_block (h5.block b hbl)).trans q1
        have r2 : wr.cell? ⟨b, i * 2 + 1, none⟩ = some (.int .i64 (p.2)) := (World.cell?_of_block (h5.block b hbl)).trans q2
        have hpo := HOK.out.2 p hpm
        obtain ⟨pc, pd⟩ := p
        simp only at r1 r2 hpo
        obtain ⟨c, rfl⟩ : ∃ c : Nat, pc = c := ⟨pc.toNat, by omega⟩
        obtain ⟨d, rfl⟩ : ∃ d : Nat, pd = d := ⟨pd.toNat, by omega⟩
        have sz := h5.size
        have hbw : b < wr.heap.size := by omega
        have c1 : wr.cell? ⟨eb, 1, none⟩ = some (.slice (some ⟨tb, 0, none⟩) (k + 1) (k + 1)) := h3.is 1 (by omega)
        have ct := h1.is i (by omega)
        have zt := h1.fz i (by omega)
        have l1 := h3.lt
        have l2 := h1.lt
        have di : decide (0 ≤ (i : Int)) = true := by simp
        have hB8 : Below wr.heap.size (wr.setCell ⟨tb, i, none⟩ (.int .i64 (c))) ((wr.setCell ⟨tb, i, none⟩ (.int .i64 (c))).alloc (Obj.cells #[.int .i64 (c), .int .i64 (d)] 55)) := by
          have := (Below.rf (wr.setCell ⟨tb, i, none⟩ (.int .i64 (c)))).al (Obj.cells #[.int .i64 (c), .int .i64 (d)] 55)
          simpa using this
        have hB8' : Below (wr.setCell ⟨tb, i, none⟩ (.int .i64 (c))).heap.size (wr.setCell ⟨tb, i, none⟩ (.int .i64 (c))) ((wr.setCell ⟨tb, i, none⟩ (.int .i64 (c))).alloc (Obj.cells #[.int .i64 (c), .int .i64 (d)] 55)) := (Below.rf _).al _
        have kbt : KeptBut tb wr (wr.setCell ⟨tb, i, none⟩ (.int .i64 (c))) := (KeptBut.refl tb wr).set (Or.inl rfl) _
        have KT : Hid (Blk ((wr.setCell ⟨tb, i, none⟩ (.int .i64 (c))).alloc (Obj.cells #[.int .i64 (c), .int .i64 (d)] 55)) tb (k + 1) (tgf bay gl i)) := ((h1.set i (.int .i64 (c)) (by omega)).below hB8').congr (fun i' hi' => by
          unfold upd tgf
          by_cases e : i' = i
          · subst e; rw [if_pos rfl, if_pos (Nat.le_refl _), hdr]; rfl
          · rw [if_neg e]
            by_cases e2 : i + 1 ≤ i'
            · rw [if_pos e2, if_pos (by omega)]
            · rw [if_neg e2, if_neg (by omega)])
        have KA : Hid (Blk ((wr.setCell ⟨tb, i, none⟩ (.int .i64 (c))).alloc (Obj.cells #[.int .i64 (c), .int .i64 (d)] 55)) ab (k + 1) (aff F bay gl (i + 1))) := (h2.kept kbt (by omega)).below hB8'
        have KE : Hid (Blk ((wr.setCell ⟨tb, i, none⟩ (.int .i64 (c))).alloc (Obj.cells #[.int .i64 (c), .int .i64 (d)] 55)) eb 3 (fc (.pointer (some ⟨fb, 0, none⟩)) (.slice (some ⟨tb, 0, none⟩) (k + 1) (k + 1)) (.slice (some ⟨ab, 0, none⟩) (k + 1) (k + 1)) undef)) := (h3.kept kbt (by omega)).below hB8'
        have KR : Hid (Blk ((wr.setCell ⟨tb, i, none⟩ (.int .i64 (c))).alloc (Obj.cells #[.int .i64 (c), .int .i64 (d)] 55)) w.heap.size 3 (fc (.pointer none) (.slice none 0 0) (.slice none 0 0) undef)) := (h4.kept kbt (by omega)).below hB8'
        have KB : Hid (Below w.heap.size w ((wr.setCell ⟨tb, i, none⟩ (.int .i64 (c))).alloc (Obj.cells #[.int .i64 (c), .int .i64 (d)] 55))) := (h5.setCell (by simp; omega) _).alloc (by simp; omega) _
        have KQ : Hid (Blk ((wr.setCell ⟨tb, i, none⟩ (.int .i64 (c))).alloc (Obj.cells #[.int .i64 (c), .int .i64 (d)] 55)) wr.heap.size 2 (fc (.int .i64 (c)) (.int .i64 (d)) undef undef)) := ⟨by simp, fun i hi => by (rcases (by omega : i = 0 ∨ i = 1) with rfl | rfl <;> simp [go_sem, ↓IntWalk.iteOmega, fc]), fun i hi => by simp [go_sem, ↓IntWalk.iteOmega]⟩
        have HDR := hid hdr
        have htb := ETg_bd HBY.out (gl := gl.drop (i + 1)) (fun p hp => HOK.out.2 p (drop_mem hp))
        have hab := EAf_bd HFA.out.ok (bay := bay) (gl := gl.drop (i + 1)) (fun p hp => HOK.out.2 p (drop_mem hp))
        have hab2 : EAf F bay (gl.drop (i + 1)) ≤ 16777216 + 1024 := by
          refine Nat.le_trans hab (Nat.le_trans (Nat.mul_le_mul_right _ (?_ : (gl.drop (i + 1)).length ≤ 16)) (by omega))
          have := HN.out
          simp; omega
        clear h1 h2 h3 h4 h5 J1 J2 J3 J4 J5 hB8 hB8' kbt hdr hab q1 q2 hx
        go_wp2
        obtain ⟨qb, hqb⟩ : ∃ x, wr.heap.size = x := ⟨_, rfl⟩
        rw [hqb] at KQ ⊢
        generalize ((wr.setCell ⟨tb, i, none⟩ (.int .i64 (c))).alloc (Obj.cells #[.int .i64 (c), .int .i64 (d)] 55)) = w8 at *
        clear hqb r1 r2 c1 ct zt l1 l2 hbw sz
        obtain ⟨t, hte⟩ : ∃ t : Nat, ETg bay (gl.drop (i + 1)) = t := ⟨(ETg bay (gl.drop (i + 1))).toNat, by omega⟩
        have D1 := hid (fun (w' : World) (h : Below w8.heap.size w8 w') => dist_any fb F lab c t (by omega) (by omega) w' (HFA.out.below (KB.out.trans (h.mono KB.out.size))))
        have hle := HFA.out.ok.le c t
        have x1 : w8.cell? ⟨eb, 1, none⟩ = some (.slice (some ⟨tb, 0, none⟩) (k + 1) (k + 1)) := KE.out.is 1 (by omega)
        have x2 : w8.cell? ⟨eb, 2, none⟩ = some (.slice (some ⟨ab, 0, none⟩) (k + 1) (k + 1)) := KE.out.is 2 (by omega)
        have x3 : w8.cell? ⟨qb, 0, none⟩ = some (.int .i64 (c)) := KQ.out.is 0 (by omega)
        have x4 : w8.cell? ⟨qb, 1, none⟩ = some (.int .i64 (d)) := KQ.out.is 1 (by omega)
        have x5 : w8.cell? ⟨tb, i + 1, none⟩ = some (.int .i64 (t)) := by rw [KT.out.is (i + 1) (by omega)]; unfold tgf; rw [if_pos (by omega), hte]
        have x6 : w8.cell? ⟨ab, i + 1, none⟩ = some (.int .i64 (EAf F bay (gl.drop (i + 1)))) := by rw [KA.out.is (i + 1) (by omega)]; unfold aff; rw [if_pos (by omega)]
        have x7 := KA.out.is i (by omega)
        have x8 := KA.out.fz i (by omega)
        have l1 := KE.out.lt
        have l2 := KQ.out.lt
        have l3 := KT.out.lt
        have l4 := KA.out.lt
        have HTE := hid hte
        have HEA : Hid (EAf F bay (gl.drop i) = d + F.dist c t + EAf F bay (gl.drop (i + 1))) := by
          show EAf F bay (gl.drop i) = _
          rw [HDR.out, EAf, hte]
          simp
        generalize F.dist c t = xd at *
        generalize hea : EAf F bay (gl.drop (i + 1)) = xa at *
        have HEB := hid hea
        clear hea hte
        first | with_reducible refine wp_region_tail_ext2 23 (by kernel_rfl) (by kernel_rfl) ?_ | refine wp_region_tail_ext 23 (by kernel_rfl) (by kernel_rfl) ?_
        simp only [List.take_succ_cons, List.take_zero, List.drop_succ_cons, List.drop_zero]
        repeat (go_big_quiet_step ((go_at_call 61; exact Calls.ext_of_same (D1.out _ (by (repeat (first | with_reducible exact Below.rf _ | with_reducible exact World.below_ext _ _ | with_reducible refine Below.ex ?_ _ | with_reducible refine Below.al ?_ _ | with_reducible refine Below.setCell ?_ (by simp) _ | with_reducible refine Below.drew ?_)))))))
        refine wpQuiet_nil ?_
        rintro _ ⟨z, rfl⟩
        have kba : KeptBut ab w8 (w8.setCell ⟨ab, i, none⟩ (.int .i64 ((d : Int) + (xd : Int) + (xa : Int)))) := (KeptBut.refl ab w8).set (Or.inl rfl) _
        have hBz := World.below_ext (w8.setCell ⟨ab, i, none⟩ (.int .i64 ((d : Int) + (xd : Int) + (xa : Int)))) z
        have KB2 : Below w.heap.size w (w8.setCell ⟨ab, i, none⟩ (.int .i64 ((d : Int) + (xd : Int) + (xa : Int)))) := KB.out.setCell (by simp; omega) _
        have KF := hid (And.intro ((KT.out.kept kba (by omega)).below hBz) (And.intro ((KA.out.set i (.int .i64 ((d : Int) + (xd : Int) + (xa : Int))) (by omega)).below hBz) (And.intro ((KE.out.kept kba (by omega)).below hBz) (And.intro ((KR.out.kept kba (by omega)).below hBz) (KB2.trans (hBz.mono KB2.size))))))
        clear kba hBz KB2
        go_wp2
        go_roundw
        case rel =>
          refine ⟨i, _, rfl, rfl, by omega, KF.out.1, KF.out.2.1.congr (fun i' hi' => ?_), KF.out.2.2.1, KF.out.2.2.2.1, KF.out.2.2.2.2⟩
          unfold upd aff
          by_cases e : i' = i
          · subst e
            rw [if_pos rfl, if_pos (Nat.le_refl _), HEA.out]
            simp
          · rw [if_neg e]
            by_cases e2 : i + 1 ≤ i'
            · rw [if_pos e2, if_pos (by omega)]
            · rw [if_neg e2, if_neg (by omega)]
        case measure => simp [intOf]
      | zero =>
        obtain rfl : y = -1 := by omega
        have x0 : wr.cell? ⟨eb, 0, none⟩ = some (.pointer (some ⟨fb, 0, none⟩)) := h3.is 0 (by omega)
        have x1 : wr.cell? ⟨eb, 1, none⟩ = some (.slice (some ⟨tb, 0, none⟩) (k + 1) (k + 1)) := h3.is 1 (by omega)
        have x2 : wr.cell? ⟨eb, 2, none⟩ = some (.slice (some ⟨ab, 0, none⟩) (k + 1) (k + 1)) := h3.is 2 (by omega)
        have y0 : wr.cell? ⟨w.heap.size, 0, none⟩ = some (.pointer none) := h4.is 0 (by omega)
        have y1 : wr.cell? ⟨w.heap.size, 1, none⟩ = some (.slice none 0 0) := h4.is 1 (by omega)
        have y2 : wr.cell? ⟨w.heap.size, 2, none⟩ = some (.slice none 0 0) := h4.is 2 (by omega)
        have z0 := h4.fz 0 (by omega)
        have z1 := h4.fz 1 (by omega)
        have z2 := h4.fz 2 (by omega)
        have l1 := h3.lt
        have l2 := h4.lt
        have hv1 : tgf bay gl 0 = fun i => .int .i64 (ETg bay (gl.drop i)) := by funext i; unfold tgf; rw [if_pos (Nat.zero_le _)]
        have hv2 : aff F bay gl 0 = fun i => .int .i64 ((EAf F bay (gl.drop i) : Int)) := by funext i; unfold aff; rw [if_pos (Nat.zero_le _)]
        have HV := hid (And.intro hv1 hv2)
        clear h1 h2 h3 h4 h5 hy hv1 hv2
        go_wp2
        refine bodyPost_ret (v := .agg #[.pointer (some ⟨fb, 0, none⟩), .slice (some ⟨tb, 0, none⟩) (k + 1) (k + 1), .slice (some ⟨ab, 0, none⟩) (k + 1) (k + 1)]) (by simp [results, Try.results60, go_sem, ↓IntWalk.iteOmega, y0, y1, y2]) rfl ?_
        have kbr : KeptBut w.heap.size wr (((wr.setCell ⟨w.heap.size, 0, none⟩ (.pointer (some ⟨fb, 0, none⟩))).setCell ⟨w.heap.size, 1, none⟩ (.slice (some ⟨tb, 0, none⟩) (k + 1) (k + 1))).setCell ⟨w.heap.size, 2, none⟩ (.slice (some ⟨ab, 0, none⟩) (k + 1) (k + 1))) := (((KeptBut.refl w.heap.size wr).set (Or.inl rfl) _).set (Or.inl rfl) _).set (Or.inl rfl) _
        refine ⟨_, _, rfl, ?_, fun lab' hl' => ⟨?_, ?_⟩⟩
        · exact ((J5.out.setCell (by simp) _).setCell (by simp) _).setCell (by simp) _
        · have hT := J1.out.kept kbr (by omega)
          rw [HV.out.1] at hT
          refine ⟨⟨some ⟨tb, 0, none⟩, k + 1, by rw [etl_len, HN.out], by rw [etl_len, HN.out]; omega⟩, by rw [etl_len, HN.out]; omega, fun c hc => ?_, fun j c hj => ?_⟩
          · simp only [etl, List.mem_map] at hc
            obtain ⟨j, -, rfl⟩ := hc
            have := ETg_bd HBY.out (gl := gl.drop j) (fun p hp => HOK.out.2 p (drop_mem hp))
            exact ⟨by omega, by omega⟩
          · have hj2 := (List.getElem?_eq_some_iff.1 hj).1
            rw [etl_len, HN.out] at hj2
            rw [etl_at bay gl j (by rw [HN.out]; omega)] at hj
            cases hj
            exact ⟨tb, 0, _, _, rfl, hT.lt, Or.inl (hl' tb (by omega)), by rw [Nat.zero_add]; exact hT.is j hj2⟩
        · have hT := J2.out.kept kbr (by omega)
          rw [HV.out.2] at hT
          refine ⟨⟨some ⟨ab, 0, none⟩, k + 1, by rw [eal_len, HN.out], by rw [eal_len, HN.out]; omega⟩, by rw [eal_len, HN.out]; omega, fun c hc => ?_, fun j c hj => ?_⟩
          · simp only [eal, List.mem_map] at hc
            obtain ⟨j, -, rfl⟩ := hc
            have h1 := EAf_bd HFA.out.ok (bay := bay) (gl := gl.drop j) (fun p hp => HOK.out.2 p (drop_mem hp))
            have h2 : (gl.drop j).length * 1048640 ≤ 16 * 1048640 := Nat.mul_le_mul_right _ (by have := HN.out; simp; omega)
            exact ⟨by omega, by omega⟩
          · have hj2 := (List.getElem?_eq_some_iff.1 hj).1
            rw [eal_len, HN.out] at hj2
            rw [eal_at F bay gl j (by rw [HN.out]; omega)] at hj
            cases hj
            exact ⟨ab, 0, _, _, rfl, hT.lt, Or.inl (hl' ab (by omega)), by rw [Nat.zero_add]; exact hT.is j hj2⟩
end Go.Proofs.Qxb6500716a
