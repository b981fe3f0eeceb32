/-
  The desk in memory; the heap's operations, their shape only.
-/
import Derived.Test.Qxb6500717aGreatHp
import Derived.Test.Qxb6500717aGreatAdvP
namespace Go.Proofs.Qxb6500717aGreat
open Go.RowKit
set_option linter.unusedSimpArgs false
set_option linter.unusedVariables false

/-- The desk: a table's pointer, the heap, the marks' pointer. -/
structure DAt (w : World) (lab : Nat → Nat) (d : Nat) (tv mv : Value) (k : Nat) : Prop where
  ld : lab d = 1
  lt : d < w.heap.size
  c0 : w.cell? ⟨d, 0, none⟩ = some tv
  c3 : w.cell? ⟨d, 3, none⟩ = some mv
  fz : ∀ i, i < 4 → w.frozen? ⟨d, i, none⟩ = false
  hp : ∃ (ao : Option Addr) (n cap nx : Nat), w.cell? ⟨d, 1, none⟩ = some (.slice ao n cap) ∧ w.cell? ⟨d, 2, none⟩ = some (.int .i64 (nx)) ∧ n ≤ k ∧ nx ≤ k ∧ n ≤ cap ∧ ((ao = none ∧ cap = 0) ∨ ∃ b, ao = some ⟨b, 0, none⟩ ∧ lab b = 2 ∧ 1 ≤ cap ∧ HB w b cap n)

section
variable {w w' : World} {lab lab' : Nat → Nat} {d k : Nat} {tv mv : Value}
theorem DAt.of (h : DAt w lab d tv mv k) (hs : w.heap.size ≤ w'.heap.size) (hl : ∀ j, j < w.heap.size → lab' j = lab j) (hb : ∀ j, j < w.heap.size → lab j = 1 ∨ lab j = 2 → w'.heap[j]? = w.heap[j]?) : DAt w' lab' d tv mv k := by
  have e := hb d h.lt (Or.inl h.ld)
  have ce : ∀ i, w'.cell? ⟨d, i, none⟩ = w.cell? ⟨d, i, none⟩ := fun i => World.cell?_of_block e
  refine ⟨(hl d h.lt).trans h.ld, Nat.lt_of_lt_of_le h.lt hs, (ce 0).trans h.c0, (ce 3).trans h.c3, fun i hi => (World.frozen?_of_block e).trans (h.fz i hi), ?_⟩
  obtain ⟨ao, n, cap, nx, h1, h2, h3, h4, h5, h6⟩ := h.hp
  refine ⟨ao, n, cap, nx, (ce 1).trans h1, (ce 2).trans h2, h3, h4, h5, ?_⟩
  rcases h6 with h6 | ⟨b, e1, e2, e3, vs, p1, p2, p3⟩
  · exact Or.inl h6
  · exact Or.inr ⟨b, e1, (hl b p1.lt).trans e2, e3, vs, p1.of_block hs (hb b p1.lt (Or.inr e2)), p2, p3⟩
theorem DAt.below (h : DAt w lab d tv mv k) (hb : Below w.heap.size w w') : DAt w' lab d tv mv k := h.of hb.size (fun _ _ => rfl) (fun j hj _ => hb.block j hj)
theorem DAt.keptL {A : Nat → Prop} (h : DAt w lab d tv mv k) (hk : KeptL lab A w w') (h1 : ¬ A 1) (h2 : ¬ A 2) : DAt w' lab d tv mv k :=
  h.of hk.size (fun _ _ => rfl) (fun j hj hl => hk.block j hj (by rcases hl with hl | hl <;> rw [hl] <;> assumption))
theorem DAt.more (h : DAt w lab d tv mv k) {k' : Nat} (hk : k ≤ k') : DAt w lab d tv mv k' := by
  obtain ⟨ao, n, cap, nx, h1, h2, h3, h4, h5, h6⟩ := h.hp
  exact { h with hp := ⟨ao, n, cap, nx, h1, h2, by omega, by omega, h5, h6⟩ }
end

theorem slice_hp (b n len cap : Nat) (h : n ≤ cap) (h0 : 0 < cap) (w : World) : (Instr.sliceAt 43 (.slice (some ⟨b, 0, none⟩) len cap) none (some (.int .i64 (n))) none).run Tryz.prog w = .ok (.slice (some ⟨b, 0, none⟩) n cap) w := by
  have he : (Tryz.prog).elem 43 = 102 := by simp [Program.elem, Tryz.underlying43]
  have ht' : (Tryz.prog).underlying 43 = some (.slice ((Tryz.prog).elem 43)) := by rw [he]; exact Tryz.underlying43
  rw [run_sliceAt_slice _ _ _ _ _ _ ht', run_slice_h _ _ _ _ _ ht' _ _ (by omega) (by omega)]
  have hsz : (sizeOf ((Tryz.prog).elem 43)).run Tryz.prog w = .ok 4 w := by rw [he]; kernel_rfl
  rw [hsz]
  simp only [Result.andThen, sliced, Int.toNat_natCast]
  rw [if_neg (by omega)]
  simp [Addr.add_lit]
theorem slice_hnil (w : World) : (Instr.sliceAt 43 (.slice none 0 0) none (some (.int .i64 (0))) none).run Tryz.prog w = .ok (.slice none 0 0) w := by
  have he : (Tryz.prog).elem 43 = 102 := by simp [Program.elem, Tryz.underlying43]
  have ht' : (Tryz.prog).underlying 43 = some (.slice ((Tryz.prog).elem 43)) := by rw [he]; exact Tryz.underlying43
  rw [run_sliceAt_slice _ _ _ _ _ _ ht']
  have hsz : (sizeOf ((Tryz.prog).elem 43)).run Tryz.prog w = .ok 4 w := by rw [he]; kernel_rfl
  rw [run_slice_h _ _ _ _ _ ht' _ _ (by omega) (by omega), hsz]
  rfl

theorem hlen_any (d : Nat) (lab : Nat → Nat) (tv mv : Value) (k : Nat) (w : World) (h : DAt w lab d tv mv k) : Calls Tryz.prog 19 #[.pointer (some ⟨d, 1, none⟩)] w fun e w' => (∃ n : Nat, n ≤ k ∧ e = .returned (.int .i64 (n))) ∧ w' = w := by
  obtain ⟨ao, n, cap, nx, h1, h2, h3, h4, h5, h6⟩ := h.hp
  have l1 := h.lt
  have : Calls Tryz.prog 19 #[.pointer (some ⟨d, 1, none⟩)] w fun e w' => e = .returned (.int .i64 (n)) ∧ w' = w := by
    clear h h6
    go_enter Tryz.func19, Tryz.ntmps19
    go_wp2
    go_ret
    exact ⟨rfl, rfl⟩
  refine this.mono ?_
  rintro e w' ⟨rfl, rfl⟩
  exact ⟨⟨n, h3, rfl⟩, rfl⟩

def hpPost (lab : Nat → Nat) (d : Nat) (tv mv : Value) (k : Nat) (v : Ending → Prop) (w : World) (e : Ending) (w' : World) : Prop :=
  v e ∧ ∃ lab', DAt w' lab' d tv mv k ∧ (∀ j, j < w.heap.size → lab' j = lab j) ∧ KeptL lab (fun x => x = 1 ∨ x = 2) w w'

theorem hreset_any (d : Nat) (lab : Nat → Nat) (tv mv : Value) (k : Nat) (w : World) (h : DAt w lab d tv mv k) : Calls Tryz.prog 20 #[.pointer (some ⟨d, 1, none⟩)] w (hpPost lab d tv mv k (fun e => e = .returned (.tuple #[])) w) := by
  have HH := hid h
  obtain ⟨ao, n, cap, nx, h1, h2, h3, h4, h5, h6⟩ := h.hp
  have l1 := h.lt
  have f1 := h.fz 1 (by omega)
  have f2 := h.fz 2 (by omega)
  have hsl : ∀ w, (Instr.sliceAt 43 (.slice ao n cap) none (some (.int .i64 (0))) none).run Tryz.prog w = .ok (.slice ao 0 cap) w := by
    rcases h6 with ⟨rfl, rfl⟩ | ⟨b, rfl, e2, e3, e4⟩
    · obtain rfl : n = 0 := by omega
      exact slice_hnil
    · exact slice_hp b 0 n cap (by omega) (by omega)
  have H6 := hid h6
  clear h h6
  go_enter Tryz.func20, Tryz.ntmps20
  go_wp2
  refine bodyPost_end (v := .tuple #[]) (by simp [results, Tryz.results20]) rfl ?_
  refine ⟨rfl, lab, ?_, fun _ _ => rfl, ((KeptL.refl lab _ w).set (Or.inl HH.out.ld) _).set (Or.inl HH.out.ld) _⟩
  refine ⟨HH.out.ld, by simpa using l1, by simp [go_sem, ↓IntWalk.iteOmega]; exact HH.out.c0, by simp [go_sem, ↓IntWalk.iteOmega]; exact HH.out.c3, fun i hi => by rw [World.frozen?_setCell, World.frozen?_setCell]; exact HH.out.fz i hi, ao, 0, cap, 0, by simp [go_sem, ↓IntWalk.iteOmega, *], by simp [go_sem, ↓IntWalk.iteOmega, *], by omega, by omega, by omega, ?_⟩
  rcases H6.out with h6 | ⟨b, e1, e2, e3, e4⟩
  · exact Or.inl h6
  · have hne : b ≠ d := fun e => by have := HH.out.ld; rw [← e, e2] at this; omega
    exact Or.inr ⟨b, e1, e2, e3, ((e4.take (Nat.zero_le _)).kept ((KeptBut.refl d w).set' _ _) hne).kept ((KeptBut.refl d _).set' _ _) hne⟩

/-- Peek: nothing there, or a node's item. -/
def itemE (e : Ending) : Prop := ∃ (a b c : Int) (f : Bool), e = .returned (.tuple #[.agg #[.int .i64 (a), .int .i64 (b), .int .i64 (c)], .bool f])
set_option maxRecDepth 20000 in
theorem hpeek_any (d : Nat) (lab : Nat → Nat) (tv mv : Value) (k : Nat) (w : World) (h : DAt w lab d tv mv k) : Calls Tryz.prog 18 #[.pointer (some ⟨d, 1, none⟩)] w fun e w' => itemE e ∧ ∃ z, w' = w.ext z := by
  obtain ⟨ao, n, cap, nx, h1, h2, h3, h4, h5, h6⟩ := h.hp
  have l1 := h.lt
  cases n with
  | zero =>
    have : Calls Tryz.prog 18 #[.pointer (some ⟨d, 1, none⟩)] w fun e w' => e = .returned (.tuple #[.agg #[.int .i64 (0), .int .i64 (0), .int .i64 (0)], .bool false]) ∧ ∃ z, w' = w.ext z := by
      clear h h6
      go_enter Tryz.func18, Tryz.ntmps18
      go_wp2
      refine bodyPost_ret (v := .tuple #[.agg #[.int .i64 (0), .int .i64 (0), .int .i64 (0)], .bool false]) (by simp [results, Tryz.results18, go_sem, ↓IntWalk.iteOmega]) rfl ?_
      refine ⟨rfl, ?_⟩
      refine Below.is_ext ?_
      (repeat (first | with_reducible exact Below.rf _ | with_reducible exact World.below_ext _ _ | with_reducible refine Below.ex ?_ _ | with_reducible refine Below.al ?_ _ | with_reducible refine Below.setCell ?_ (by simp) _ | with_reducible refine Below.drew ?_))
    exact this.mono (fun e w' hh => ⟨⟨0, 0, 0, false, hh.1⟩, hh.2⟩)
  | succ n =>
    rcases h6 with ⟨rfl, rfl⟩ | ⟨b, rfl, e2, e3, e4⟩
    · omega
    obtain ⟨x0, x1, x2, x3, p0, p1, p2, p3, -⟩ := e4.at (i := 0) (by omega)
    have lb := e4.lt
    rw [Nat.zero_mul] at p0 p1 p2 p3
    have : Calls Tryz.prog 18 #[.pointer (some ⟨d, 1, none⟩)] w fun e w' => e = .returned (.tuple #[.agg #[.int .i64 (x0), .int .i64 (x1), .int .i64 (x2)], .bool true]) ∧ ∃ z, w' = w.ext z := by
      have b1 : (((n + 1 : Nat) : Int) == 0) = false := by simp; omega
      clear h
      go_enter Tryz.func18, Tryz.ntmps18
      go_wp2
      refine bodyPost_ret (v := .tuple #[.agg #[.int .i64 (x0), .int .i64 (x1), .int .i64 (x2)], .bool true]) (by simp [results, Tryz.results18, go_sem, ↓IntWalk.iteOmega]) rfl ?_
      refine ⟨rfl, ?_⟩
      refine Below.is_ext ?_
      (repeat (first | with_reducible exact Below.rf _ | with_reducible exact World.below_ext _ _ | with_reducible refine Below.ex ?_ _ | with_reducible refine Below.al ?_ _ | with_reducible refine Below.setCell ?_ (by simp) _ | with_reducible refine Below.drew ?_))
    exact this.mono (fun e w' hh => ⟨⟨x0, x1, x2, true, hh.1⟩, hh.2⟩)

theorem sink_all (d b cap n : Nat) (w : World) (hd : d < w.heap.size) (c1 : w.cell? ⟨d, 1, none⟩ = some (.slice (some ⟨b, 0, none⟩) n cap)) (hn : n ≤ 1000000) (hb : HB w b cap n) (hne : b ≠ d) :
    Calls Tryz.prog 65 #[.pointer (some ⟨d, 1, none⟩), .int .i64 (0)] w (sinkPost b cap n w) := by
  cases n with
  | zero => exact (sink_nil d _ cap w hd c1).mono (fun e w' h => ⟨h.1, by rw [h.2]; exact hb, by rw [h.2]; exact KeptBut.refl b w⟩)
  | succ n => exact sink_any d b cap (n + 1) w hd c1 (by omega) hb hne
theorem _root_.Go.KeptBut.frozen {b : Nat} {w w1 : World} (h : KeptBut b w w1) {k : Nat} (o : Nat) (hk : k < w.heap.size) (hb : k ≠ b) : w1.frozen? ⟨k, o, none⟩ = w.frozen? ⟨k, o, none⟩ :=
  World.frozen?_of_block (h.block k hk hb)

set_option maxRecDepth 20000 in
set_option maxHeartbeats 4000000 in
theorem hpop_any (d : Nat) (lab : Nat → Nat) (tv mv : Value) (k : Nat) (w : World) (h : DAt w lab d tv mv k) (hk : k ≤ 1000000) : Calls Tryz.prog 17 #[.pointer (some ⟨d, 1, none⟩)] w (hpPost lab d tv mv k itemE w) := by
  have HH := hid h
  obtain ⟨ao, n, cap, nx, h1, h2, h3, h4, h5, h6⟩ := h.hp
  have l1 := h.lt
  cases n with
  | zero =>
    clear h h6
    go_enter Tryz.func17, Tryz.ntmps17
    go_wp2
    refine bodyPost_ret (v := .tuple #[.agg #[.int .i64 (0), .int .i64 (0), .int .i64 (0)], .bool false]) (by simp [results, Tryz.results17, go_sem, ↓IntWalk.iteOmega]) rfl ?_
    refine ⟨⟨0, 0, 0, false, rfl⟩, lab, HH.out.below ?_, fun _ _ => rfl, KeptL.of_below ?_⟩
    · (repeat (first | with_reducible exact Below.rf _ | with_reducible exact World.below_ext _ _ | with_reducible refine Below.ex ?_ _ | with_reducible refine Below.al ?_ _ | with_reducible refine Below.setCell ?_ (by simp) _ | with_reducible refine Below.drew ?_))
    · (repeat (first | with_reducible exact Below.rf _ | with_reducible exact World.below_ext _ _ | with_reducible refine Below.ex ?_ _ | with_reducible refine Below.al ?_ _ | with_reducible refine Below.setCell ?_ (by simp) _ | with_reducible refine Below.drew ?_))
  | succ n =>
    rcases h6 with ⟨rfl, rfl⟩ | ⟨b, rfl, e2, e3, e4⟩
    · omega
    have hne : b ≠ d := fun e => by have := HH.out.ld; rw [← e, e2] at this; omega
    obtain ⟨x0, x1, x2, x3, p0, p1, p2, p3, g0, g1, g2, g3⟩ := e4.at (i := 0) (by omega)
    obtain ⟨y0, y1, y2, y3, q0, q1, q2, q3, -⟩ := e4.at (i := n) (by omega)
    have lb := e4.lt
    have f1 := h.fz 1 (by omega)
    have hsl := slice_hp b n (n + 1) cap (by omega) (by omega)
    rw [Nat.zero_mul] at p0 p1 p2 p3 g0 g1 g2 g3
    have b1 : (((n + 1 : Nat) : Int) == 0) = false := by simp; omega
    have E4 := hid e4
    clear h e4
    go_enter Tryz.func17, Tryz.ntmps17
    go_wp2
    first | with_reducible refine wp_region_tail_ext2 12 (by kernel_rfl) (by kernel_rfl) ?_ | refine wp_region_tail_ext 12 (by kernel_rfl) (by kernel_rfl) ?_
    simp only [List.take_succ_cons, List.take_zero, List.drop_succ_cons, List.drop_zero]
    repeat (go_big_quiet_step (fail))
    refine wpQuiet_nil ?_
    rintro _ ⟨z, rfl⟩
    go_wp2_with (go_at_call 65; refine hold ?_)
    unfold Hid
    refine (sink_all d b cap n _ (by simp; omega) (by simp [go_sem, ↓IntWalk.iteOmega, *]) (by omega) ?_ hne).mono ?_
    · refine HB.below (w := World.setCell (World.setCell (World.setCell (World.setCell (World.setCell w _ _) _ _) _ _) _ _) _ _) ?_ (by (repeat (first | with_reducible exact Below.rf _ | with_reducible exact World.below_ext _ _ | with_reducible refine Below.ex ?_ _ | with_reducible refine Below.al ?_ _ | with_reducible refine Below.setCell ?_ (by simp) _ | with_reducible refine Below.drew ?_)))
      refine HB.kept ?_ ((KeptBut.refl d _).set' _ _) hne
      exact ((((E4.out.put1 (i := 0) (by omega) y0).put1 (i := 1) (by omega) y1).put1 (i := 2) (by omega) y2).put1 (i := 3) (by omega) y3).take (by omega)
    rintro e w5 ⟨rfl, hb5, hk5⟩
    have r0 := hk5.cell (k := w.heap.size + 1) 0 (by simp; omega) (by omega)
    have r1 := hk5.cell (k := w.heap.size + 1) 1 (by simp; omega) (by omega)
    have r2 := hk5.cell (k := w.heap.size + 1) 2 (by simp; omega) (by omega)
    have v0 := hk5.cell (k := w.heap.size) 0 (by simp; omega) (by omega)
    have v1 := hk5.cell (k := w.heap.size) 1 (by simp; omega) (by omega)
    have v2 := hk5.cell (k := w.heap.size) 2 (by simp; omega) (by omega)
    have vf0 := hk5.frozen (k := w.heap.size) 0 (by simp; omega) (by omega)
    have vf1 := hk5.frozen (k := w.heap.size) 1 (by simp; omega) (by omega)
    have vf2 := hk5.frozen (k := w.heap.size) 2 (by simp; omega) (by omega)
    have c0 := hk5.cell (k := d) 0 (by simp; omega) (Ne.symm hne)
    have c1 := hk5.cell (k := d) 1 (by simp; omega) (Ne.symm hne)
    have c2 := hk5.cell (k := d) 2 (by simp; omega) (Ne.symm hne)
    have c3 := hk5.cell (k := d) 3 (by simp; omega) (Ne.symm hne)
    have cf := fun i => hk5.frozen (k := d) i (by simp; omega) (Ne.symm hne)
    simp [go_sem, ↓IntWalk.iteOmega] at r0 r1 r2 v0 v1 v2 vf0 vf1 vf2 c0 c2 c3 cf
    simp [go_sem, ↓IntWalk.iteOmega, h1] at c1
    have hs5 := hk5.size
    simp at hs5
    have hk5' : KeptL lab (fun x => x = 1 ∨ x = 2) w w5 := by
      refine KeptL.trans ?_ (KeptL.of_but hk5 (Or.inr e2))
      (repeat (first | with_reducible exact KeptL.refl _ _ _ | with_reducible refine KeptL.ex ?_ _ | with_reducible refine KeptL.al ?_ _ | with_reducible refine KeptL.drew ?_ | with_reducible refine KeptL.set ?_ (by first | exact Or.inl HH.out.ld | exact Or.inr e2) _))
    have HK5 := hid hk5'
    have C0 := hid (c0.trans HH.out.c0)
    have C1 := hid c1
    have C2 := hid (c2.trans h2)
    have C3 := hid (c3.trans HH.out.c3)
    have CF := hid cf
    have HB5 := hid hb5
    clear hk5 hk5' hb5 c0 c1 c2 c3 cf p0 p1 p2 p3 g0 g1 g2 g3 q0 q1 q2 q3 h1 h2 f1
    go_wp2
    refine bodyPost_ret (v := .tuple #[.agg #[.int .i64 (x0), .int .i64 (x1), .int .i64 (x2)], .bool true]) (by simp [results, Tryz.results17, go_sem, ↓IntWalk.iteOmega, v0, v1, v2]) rfl ?_
    have hnw : d ≠ w.heap.size := by omega
    have hbw : b ≠ w.heap.size := by omega
    have oth : ∀ i, (((w5.setCell ⟨w.heap.size, 0, none⟩ (.int .i64 (x0))).setCell ⟨w.heap.size, 1, none⟩ (.int .i64 (x1))).setCell ⟨w.heap.size, 2, none⟩ (.int .i64 (x2))).cell? ⟨d, i, none⟩ = w5.cell? ⟨d, i, none⟩ := fun i => by
      have hne2 : ∀ j, (⟨w.heap.size, j, none⟩ : Addr) ≠ ⟨d, i, none⟩ := fun j e => hnw (by have := congrArg Addr.block e; exact this.symm)
      rw [World.cell?_setCell_other _ _ _ _ (hne2 2), World.cell?_setCell_other _ _ _ _ (hne2 1), World.cell?_setCell_other _ _ _ _ (hne2 0)]
    refine ⟨⟨x0, x1, x2, true, rfl⟩, lab, ⟨HH.out.ld, by simp; omega, (oth 0).trans C0.out, (oth 3).trans C3.out, fun i hi => ?_, _, n, cap, nx, (oth 1).trans C1.out, (oth 2).trans C2.out, by omega, by omega, by omega, Or.inr ⟨b, rfl, e2, e3, ?_⟩⟩, fun _ _ => rfl, ?_⟩
    · rw [World.frozen?_setCell, World.frozen?_setCell, World.frozen?_setCell, CF.out i]
      exact HH.out.fz i hi
    · (repeat (with_reducible refine HB.kept ?_ ((KeptBut.refl _ _).set' _ _) hbw))
      exact HB5.out
    · exact ⟨HK5.out.os, HK5.out.tape, HK5.out.output, by simpa using HK5.out.size, fun j hj hn => by
        rw [Below.heap_setCell _ _ _ _ (by show j ≠ w.heap.size; omega), Below.heap_setCell _ _ _ _ (by show j ≠ w.heap.size; omega), Below.heap_setCell _ _ _ _ (by show j ≠ w.heap.size; omega)]
        exact HK5.out.block j hj hn⟩

/-- 'append' onto the nodes. -/
theorem wp_hp {w : World} {o : Oper} {a : Act} {K : Act → World → Prop} {Q : Exit → Act → World → Prop} (hgd : o.guard = none) (s x : Operand)
    (ho : o.op = .call { callee := .builtin .append, args := #[s, x], argTypes := #[43, 43] })
    (ao : Option Addr) (n cap bb : Nat) (hs : a.eval s = .slice ao n cap) (hn : n ≤ 1000000) (hnc : n ≤ cap) (hb : (ao = none ∧ cap = 0) ∨ (ao = some ⟨bb, 0, none⟩ ∧ HB w bb cap n))
    (b2 : Nat) (y0 y1 y2 y3 : Int) (hx : a.eval x = .slice (some ⟨b2, 0, none⟩) 1 1) (h0 : w.cell? ⟨b2, 0, none⟩ = some (.int .i64 (y0))) (h1 : w.cell? ⟨b2, 1, none⟩ = some (.int .i64 (y1))) (h2 : w.cell? ⟨b2, 2, none⟩ = some (.int .i64 (y2))) (h3 : w.cell? ⟨b2, 3, none⟩ = some (.int .i64 (y3)))
    (h : ∀ g cap' w', (g = bb ∧ ao = some ⟨bb, 0, none⟩ ∨ w.heap.size ≤ g) → HB w' g cap' (n + 1) → KeptBut bb w w' → K (a.put o.dst (.slice (some ⟨g, 0, none⟩) (n + 1) cap')) w') : Oper.wp Tryz.prog o a w K Q := by
  have hnews : ∀ (j : Nat) (u : Value), [.int .i64 (y0), .int .i64 (y1), .int .i64 (y2), .int .i64 (y3)][j]? = some u → w.cell? ⟨b2, 0 + j, none⟩ = some u := by
    intro j u hj
    have hj2 := (List.getElem?_eq_some_iff.1 hj).1
    simp at hj2
    rcases (by omega : j = 0 ∨ j = 1 ∨ j = 2 ∨ j = 3) with rfl | rfl | rfl | rfl <;> simp at hj <;> subst hj <;> simpa
  have hone : ∀ u ∈ ([.int .i64 (y0), .int .i64 (y1), .int .i64 (y2), .int .i64 (y3)] : List Value), u.oneCell' = true := by simp [Value.oneCell']
  have hint : Ints [.int .i64 (y0), .int .i64 (y1), .int .i64 (y2), .int .i64 (y3)] := by intro v hv; simp at hv; rcases hv with rfl | rfl | rfl | rfl <;> exact ⟨_, rfl⟩
  have fresh : ∀ (xs : List Value) v' w', Ints xs → xs.length = 4 * n → w'.ownsRow w.heap.size 102 4 v' (n + 1) (xs ++ [.int .i64 (y0), .int .i64 (y1), .int .i64 (y2), .int .i64 (y3)]) → Below w.heap.size w w' → K (a.put o.dst v') w' := by
    intro xs v' w' hxi hxl hown hB
    obtain ⟨h1, h2⟩ := hown
    rcases h2 with ⟨_, h2⟩ | ⟨g, cap', cur, hv, hg, hh, hnc, _, hsz, ht⟩
    · omega
    · rw [hv]
      refine h g cap' w' (Or.inr hg) ⟨xs ++ [.int .i64 (y0), .int .i64 (y1), .int .i64 (y2), .int .i64 (y3)], ⟨(Array.getElem?_eq_some_iff.1 hh).1, fun j hj => ?_, fun j hj => ?_, fun j u hu => ?_, by simp; omega⟩, by simp; omega, hxi.app hint⟩ ⟨hB.os, hB.tape, hB.output, hB.size, fun k hk _ => hB.block k hk⟩
      · rw [cell_of_row _ _ j cur 102 (0, 0) hh, Array.getElem?_eq_getElem (by omega)]; rfl
      · unfold World.frozen?; simp only [hh]; simp
      · rw [cell_of_row _ _ j cur 102 (0, 0) hh]
        rw [← ht, List.getElem?_take] at hu
        split at hu
        · simpa using hu
        · cases hu
  obtain ⟨i, hi, hz0, hz1, hz2⟩ := info_parts (P := Tryz.prog) (e := 102) (z := .agg #[.int .i64 (0), .int .i64 (0), .int .i64 (0), .int .i64 (0)]) (size := 4) (bytes := 32) (by kernel_rfl)
  rcases hb with ⟨rfl, rfl⟩ | ⟨rfl, hb⟩
  · obtain rfl : n = 0 := by omega
    have := step_app (w := w) (ops := #[]) (E := True) (K := K) (Q := Q) hgd s x 43 ho w.heap.size 102 (.agg #[.int .i64 (0), .int .i64 (0), .int .i64 (0), .int .i64 (0)]) 4 32 Tryz.underlying43 (by kernel_rfl) rfl (by decide) _ 0 [] hs ⟨rfl, Or.inl ⟨rfl, rfl⟩⟩ b2 0 1 1 [.int .i64 (y0), .int .i64 (y1), .int .i64 (y2), .int .i64 (y3)] hx rfl hnews hone (by omega) (by omega) (Nat.le_refl _) (fun v' w' hown hB => fresh [] v' w' (fun _ h => by cases h) rfl hown hB)
    rwa [if_pos (by simp [Region.wanted, hgd])] at this
  · obtain ⟨vs, p1, p2, p3⟩ := hb
    by_cases hroom : n + 1 ≤ cap
    · have := step_append_room (w := w) (ops := #[]) (E := True) (K := K) (Q := Q) hgd s x 43 ho 102 i 4 Tryz.underlying43 hi hz1 bb 0 n cap hs ⟨b2, 0, none⟩ 1 1 [.int .i64 (y0), .int .i64 (y1), .int .i64 (y2), .int .i64 (y3)] hx rfl (fun j u hj => by rw [Addr.add_lit]; exact hnews j u hj) hone hroom (fun j hj => by
        simp at hj
        rw [Nat.zero_add]
        exact ⟨p1.has _ (by omega), p1.fz _ (by omega)⟩) (by
        have hp := p1.push [.int .i64 (y0), .int .i64 (y1), .int .i64 (y2), .int .i64 (y3)] (by simp; omega)
        rw [p2] at hp
        rw [Nat.zero_add, Nat.mul_comm]
        exact h bb cap _ (Or.inl ⟨rfl, rfl⟩) ⟨_, hp, by simp; omega, p3.app hint⟩ (setCells_kept bb _ _ w))
      rwa [if_pos (by simp [Region.wanted, hgd])] at this
    · obtain ⟨v', w', hrun, r1, r2⟩ := run_append_arg_grows (P := Tryz.prog) w 43 o.type 102 i (.agg #[.int .i64 (0), .int .i64 (0), .int .i64 (0), .int .i64 (0)]) 4 32 Tryz.underlying43 hi hz0 hz1 hz2 rfl (by omega) ⟨bb, 0, none⟩ n cap vs (by omega) (fun j u hj => by rw [Addr.add_lit, Nat.zero_add]; exact p1.is j u hj) ⟨b2, 0, none⟩ 1 1 [.int .i64 (y0), .int .i64 (y1), .int .i64 (y2), .int .i64 (y3)] rfl (fun j u hj => by rw [Addr.add_lit]; exact hnews j u hj) (by omega) (by simp only [maxLen]; omega) (by omega)
      unfold Oper.wp
      simp [execOp, ho, resolve, invoke, builtin, hs, hx, hrun, Result.andThen]
      exact fresh vs v' w' p3 p2 r1 ((Below.refl w.heap.size w).grown r2 (Nat.le_refl _) (fun k hk => by cases hk))
end Go.Proofs.Qxb6500717aGreat
