/-
  The planner in memory; its marks and its open list.
-/
import Derived.Test.Qxb6500716aFi
namespace Go.Proofs.Qxb6500716a
open Go.RowKit Go.Maps
set_option linter.unusedSimpArgs false
set_option linter.unusedVariables false
set_option maxRecDepth 20000
set_option maxHeartbeats 4000000

/-- An item of the open list; a node. -/
structure It where
  k : Nat
  t : Nat
  v : Nat
structure Nd where
  c : Nat
  o : Nat
  l : Nat
  p : Int
def hrow (l : List It) : List Value := l.flatMap fun x => [.int .i64 (x.k), .int .i64 (x.t), .int .i64 (x.v)]
def nrow (l : List Nd) : List Value := l.flatMap fun x => [.int .i64 (x.c), .int .i64 (x.o), .int .i64 (x.l), .int .i64 (x.p)]
theorem hrow_len (l : List It) : (hrow l).length = l.length * 3 := by
  induction l with
  | nil => rfl
  | cons x l ih => simp [hrow] at ih ⊢; omega
theorem nrow_len (l : List Nd) : (nrow l).length = l.length * 4 := by
  induction l with
  | nil => rfl
  | cons x l ih => simp [nrow] at ih ⊢; omega
theorem hrow_app (l m : List It) : hrow (l ++ m) = hrow l ++ hrow m := by simp [hrow]
theorem nrow_app (l m : List Nd) : nrow (l ++ m) = nrow l ++ nrow m := by simp [nrow]
theorem hrow_at (l : List It) (k : Nat) (x : It) (h : l[k]? = some x) : (hrow l)[k * 3]? = some (.int .i64 (x.k)) ∧ (hrow l)[k * 3 + 1]? = some (.int .i64 (x.t)) ∧ (hrow l)[k * 3 + 2]? = some (.int .i64 (x.v)) := by
  induction l generalizing k with
  | nil => simp at h
  | cons y l ih =>
    cases k with
    | zero => simp at h; subst h; exact ⟨rfl, rfl, rfl⟩
    | succ k =>
      have := ih k (by simpa using h)
      rw [show (k + 1) * 3 = k * 3 + 3 by omega, show k * 3 + 3 + 1 = k * 3 + 1 + 3 by omega, show k * 3 + 3 + 2 = k * 3 + 2 + 3 by omega]
      exact this
theorem nrow_at (l : List Nd) (k : Nat) (x : Nd) (h : l[k]? = some x) : (nrow l)[k * 4]? = some (.int .i64 (x.c)) ∧ (nrow l)[k * 4 + 1]? = some (.int .i64 (x.o)) ∧ (nrow l)[k * 4 + 2]? = some (.int .i64 (x.l)) ∧ (nrow l)[k * 4 + 3]? = some (.int .i64 (x.p)) := by
  induction l generalizing k with
  | nil => simp at h
  | cons y l ih =>
    cases k with
    | zero => simp at h; subst h; exact ⟨rfl, rfl, rfl, rfl⟩
    | succ k =>
      have := ih k (by simpa using h)
      rw [show (k + 1) * 4 = k * 4 + 4 by omega, show k * 4 + 4 + 1 = k * 4 + 1 + 4 by omega, show k * 4 + 4 + 2 = k * 4 + 2 + 4 by omega, show k * 4 + 4 + 3 = k * 4 + 3 + 4 by omega]
      exact this
/-- The planner's own state: the open list, the nodes, the marks (size and set), the counts. -/
structure PS where
  hp : List It
  nd : List Nd
  ms : Nat
  seen : Int → Bool
  st : Nat → Int
/-- Where it lies. -/
structure PM where
  p : Nat
  hv : Value
  nv : Value
  kb : Nat
  mb : Nat
def pcell (M : PM) (fb tb : Nat) (st : Nat → Int) : Nat → Value
  | 0 => .pointer (some ⟨fb, 0, none⟩)
  | 1 => .pointer (some ⟨tb, 0, none⟩)
  | 2 => M.hv
  | 3 => .pointer (some ⟨M.kb, 0, none⟩)
  | 4 => M.nv
  | i + 5 => .int .i64 (st i)
/-- A set of integers as a set of keys. -/
def iS (S : Int → Prop) : Lit → Prop := fun kl => ∃ i, I64 i ∧ kl = .int .i64 i ∧ S i
theorem iS_at {S : Int → Prop} {i : Int} (hi : I64 i) : iS S (.int .i64 i) ↔ S i := by
  constructor
  · rintro ⟨j, -, e, h⟩
    simp at e
    rw [e]; exact h
  · exact fun h => ⟨i, hi, rfl, h⟩
theorem iS_put {S : Int → Prop} {i : Int} (hi : I64 i) (kl : Lit) : (kl = .int .i64 i ∨ iS S kl) ↔ iS (fun x => x = i ∨ S x) kl := by
  constructor
  · rintro (rfl | ⟨j, hj, e, h⟩)
    · exact ⟨i, hi, rfl, Or.inl rfl⟩
    · exact ⟨j, hj, e, Or.inr h⟩
  · rintro ⟨j, hj, e, h⟩
    rcases h with rfl | h
    · exact Or.inl e
    · exact Or.inr ⟨j, hj, e, h⟩
theorem lit_int (i : Int) : WideAt.IsKeyLit (.int .i64 i) := by simp [WideAt.IsKeyLit]
theorem key_int {i : Int} (hi : I64 i) : keyOf Try.prog 3 (.int .i64 (i)) = some (.int .i64 i) := keyOf_int_mk Try.underlying3 hi.wf
/-- The marks in memory: at most n of them. -/
structure KAt (w : World) (lab : Nat → Nat) (mk mm : Nat) (ms : Nat) (n : Nat) (seen : Int → Prop) : Prop where
  bk : Blk w mk 2 (fc (.int .i64 (ms)) (.map (some mm)) undef undef)
  bm : HAt 3 3 w mm n (iS seen)
  lk : lab mk = 8
  lm : lab mm = 9
section
variable {w w' : World} {lab lab' : Nat → Nat} {mk mm ms n : Nat} {seen : Int → Prop} {A : Nat → Prop}
theorem KAt.keptL (h : KAt w lab mk mm ms n seen) (hk : KeptL lab A w w') (h8 : ¬ A 8) (h9 : ¬ A 9) : KAt w' lab mk mm ms n seen :=
  ⟨h.bk.keptL hk (by rw [h.lk]; exact h8), h.bm.keptL hk (by rw [h.lm]; exact h9), h.lk, h.lm⟩
theorem KAt.relab (h : KAt w lab mk mm ms n seen) (hl : ∀ b, b < w.heap.size → lab' b = lab b) : KAt w lab' mk mm ms n seen := ⟨h.bk, h.bm, (hl _ h.bk.lt).trans h.lk, (hl _ h.bm.lt).trans h.lm⟩
theorem KAt.below (h : KAt w lab mk mm ms n seen) (hb : Below w.heap.size w w') : KAt w' lab mk mm ms n seen := h.keptL (A := fun _ => False) (KeptL.of_below hb) (fun x => x) (fun x => x)
end
theorem msize_any (mk mm ms n : Nat) (seen : Int → Prop) (lab : Nat → Nat) (w : World) (h : KAt w lab mk mm ms n seen) : Calls Try.prog 92 #[.pointer (some ⟨mk, 0, none⟩)] w fun e w' => e = .returned (.int .i64 (ms)) ∧ w' = w := by
  have c0 : w.cell? ⟨mk, 0, none⟩ = some (.int .i64 (ms)) := h.bk.is 0 (by omega)
  have hl := h.bk.lt
  clear h
  go_enter Try.func92, Try.ntmps92
  go_wp2
  go_ret
  exact ⟨rfl, rfl⟩
theorem mhas_any (mk mm ms n : Nat) (seen : Int → Prop) (lab : Nat → Nat) (i : Int) (hi : I64 i) (x : Bool) (hx : seen i ↔ x = true) (w : World) (h : KAt w lab mk mm ms n seen) : Calls Try.prog 95 #[.pointer (some ⟨mk, 0, none⟩), .int .i64 (i)] w fun e w' => e = .returned (.bool x) ∧ w' = w := by
  have c1 : w.cell? ⟨mk, 1, none⟩ = some (.map (some mm)) := h.bk.is 1 (by omega)
  have hl := h.bk.lt
  obtain ⟨v, hv⟩ := h.bm.look law3 Try.underlying146 (lit_int i) (key_int hi) x ((iS_at hi).trans hx)
  clear h hx
  go_enter Try.func95, Try.ntmps95
  go_wp2
  go_ret
  exact ⟨rfl, rfl⟩
def msetPost (lab : Nat → Nat) (mk mm ms n : Nat) (seen : Int → Prop) (i : Int) (w : World) (e : Ending) (w' : World) : Prop :=
  e = .returned (.bool true) ∧ KAt w' lab mk mm ms (n + 1) (fun x => x = i ∨ seen x) ∧ KeptL lab (fun x => x = 9) w w'
theorem mset_any (mk mm ms n : Nat) (seen : Int → Prop) (lab : Nat → Nat) (i v : Int) (hi : 0 ≤ i ∧ i < (ms : Int)) (hms : ms ≤ 4000000) (hv : I64 v) (hn : n < 900000000) (w : World) (h : KAt w lab mk mm ms n seen) : Calls Try.prog 96 #[.pointer (some ⟨mk, 0, none⟩), .int .i64 (i), .int .i64 (v)] w (msetPost lab mk mm ms n seen i w) := by
  have HK := hid h
  have HV := hid hv
  have c0 : w.cell? ⟨mk, 0, none⟩ = some (.int .i64 (ms)) := h.bk.is 0 (by omega)
  have c1 : w.cell? ⟨mk, 1, none⟩ = some (.map (some mm)) := h.bk.is 1 (by omega)
  have hl := h.bk.lt
  have ii : I64 i := ⟨by omega, by omega⟩
  obtain ⟨w', hrun, r1, r2⟩ := h.bm.put law3 Try.underlying146 (by omega) (lit_int i) (key_int ii) (plainElem_int Try.underlying3 hv.wf)
  have R1 := hid (And.intro r1 r2)
  clear h r1 r2 ii hv
  go_enter Try.func96, Try.ntmps96
  go_wp2
  go_ret
  have hk : KeptL lab (fun x => x = 9) w w' := KeptL.of_grown R1.out.2 HK.out.lm
  exact ⟨rfl, ⟨HK.out.bk.keptL hk (by rw [HK.out.lk]; omega), R1.out.1.congr (iS_put ⟨by omega, by omega⟩), HK.out.lk, HK.out.lm⟩, hk⟩
def mnewPost (ms : Nat) (w : World) (e : Ending) (w' : World) : Prop :=
  ∃ mk mm, e = .returned (.pointer (some ⟨mk, 0, none⟩)) ∧ w.heap.size ≤ mk ∧ w.heap.size ≤ mm ∧ mk ≠ mm ∧ Below w.heap.size w w' ∧ ∀ lab : Nat → Nat, lab mk = 8 → lab mm = 9 → KAt w' lab mk mm ms 0 (fun _ => False)
theorem mnew_any (ms : Nat) (w : World) : Calls Try.prog 66 #[.int .i64 (ms)] w (mnewPost ms w) := by
  have hmm := @run_makeMap Try.prog
  go_enter Try.func66, Try.ntmps66
  go_wp2
  go_ret
  refine ⟨w.heap.size + 1, w.heap.size, rfl, by omega, Nat.le_refl _, by omega, by (repeat (first | with_reducible exact Below.rf _ | with_reducible exact World.below_ext _ _ | with_reducible refine Below.ex ?_ _ | with_reducible refine Below.al ?_ _ | with_reducible refine Below.setCell ?_ (by simp) _ | with_reducible refine Below.drew ?_)), fun lab h8 h9 => ⟨⟨by simp, fun i hi => ?_, fun i hi => by simp [go_sem, ↓IntWalk.iteOmega]⟩, ?_, h8, h9⟩⟩
  · rcases (by omega : i = 0 ∨ i = 1) with rfl | rfl <;> simp [go_sem, ↓IntWalk.iteOmega, fc]
  · refine ((HAt.made 3 3 w).below ((Below.rf _).al _)).congr (fun kl => ⟨fun h => h.elim, ?_⟩)
    rintro ⟨_, _, _, h⟩
    exact h.elim
def mclrPost (lab : Nat → Nat) (mk ms : Nat) (w : World) (e : Ending) (w' : World) : Prop :=
  ∃ mm lab', e = .returned (.tuple #[]) ∧ KAt w' lab' mk mm ms 0 (fun _ => False) ∧ w.heap.size ≤ mm ∧ (∀ k, k < w.heap.size → lab' k = lab k) ∧ KeptL lab (fun x => x = 8) w w'
theorem mclr_any (mk mm ms n : Nat) (seen : Int → Prop) (lab : Nat → Nat) (w : World) (h : KAt w lab mk mm ms n seen) : Calls Try.prog 93 #[.pointer (some ⟨mk, 0, none⟩)] w (mclrPost lab mk ms w) := by
  have HK := hid h
  have c1 : w.cell? ⟨mk, 1, none⟩ = some (.map (some mm)) := h.bk.is 1 (by omega)
  have z1 := h.bk.fz 1 (by omega)
  have hl := h.bk.lt
  have hmm := @run_makeMap Try.prog
  clear h
  go_enter Try.func93, Try.ntmps93
  go_wp2
  refine bodyPost_end (v := .tuple #[]) (by simp [results, Try.results93, go_sem]) rfl ?_
  have hk : KeptL lab (fun x => x = 8) w (w.setCell ⟨mk, 1, none⟩ (.map (some w.heap.size))) := (KeptL.refl _ _ _).set HK.out.lk _
  refine ⟨w.heap.size, upd lab w.heap.size 9, rfl, ⟨?_, ?_, (upd_ne _ _ (by omega)).trans HK.out.lk, upd_at _ _ _⟩, Nat.le_refl _, fun k hk => upd_ne _ _ (by omega), hk.al _⟩
  · refine ((HK.out.bk.set 1 (.map (some w.heap.size)) (by omega)).below ((Below.rf _).al _)).congr (fun i hi => ?_)
    rcases (by omega : i = 0 ∨ i = 1) with rfl | rfl <;> rfl
  · have := (HAt.made 3 3 (w.setCell ⟨mk, 1, none⟩ (.map (some w.heap.size)))).congr (S' := iS fun _ => False) (fun kl => ⟨fun h => h.elim, by rintro ⟨_, _, _, h⟩; exact h.elim⟩)
    rw [World.size_setCell] at this
    exact this
end Go.Proofs.Qxb6500716a
