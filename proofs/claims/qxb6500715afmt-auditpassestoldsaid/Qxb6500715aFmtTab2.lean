/-
  TableDist, Field, Goal, At, Diameter.
-/
import Derived.Test.Qxb6500715aFmtAnch
import Derived.Test.Qxb6500715aFmtFlrs
namespace Go.Proofs.Qxb6500715aFmt
open Go.RowKit
set_option linter.unusedSimpArgs false
set_option linter.unusedVariables false

section
variable {w : World} {F : FP} {sb cb tb db NN : Nat} {dist : Nat → Nat → Int} {dia : Int} {D : Array Value}
theorem Flo.dst (h : Flo w F sb cb tb db NN dist dia D) {a b : Nat} (ha : a < F.N) (hb : b < F.N) : dist a b = F.dst a b ∧ (F.dst a b : Int) ≤ dia ∧ F.dst a b ≤ 384 := by
  obtain ⟨Q, hB, hd⟩ := h.tab.bfs a ha
  obtain ⟨h1, h2⟩ := bfs_dst h.fl.pln hB ha
  have e := h2 b hb
  have := hd b (h1 b hb)
  have := h.tab.d0
  exact ⟨e, by omega, by omega⟩
theorem Flo.t0 (h : Flo w F sb cb tb db NN dist dia D) : w.cell? ⟨tb, 0, none⟩ = some (.int .i64 (F.N)) := by simp [World.cell?, h.tab.ht]
theorem Flo.t1 (h : Flo w F sb cb tb db NN dist dia D) : w.cell? ⟨tb, 1, none⟩ = some (.slice (some ⟨db, 0, none⟩) NN NN) := by simp [World.cell?, h.tab.ht]
theorem Flo.t2 (h : Flo w F sb cb tb db NN dist dia D) : w.cell? ⟨tb, 2, none⟩ = some (.int .i64 (dia)) := by simp [World.cell?, h.tab.ht]
theorem Flo.tv (h : Flo w F sb cb tb db NN dist dia D) {a b : Nat} (ha : a < F.N) (hb : b < F.N) : w.cell? ⟨db, a * F.N + b, none⟩ = some (.int .i16 (F.dst a b)) := by
  have := h.tab.dv a b ha hb
  rw [(h.dst ha hb).1] at this
  simp [World.cell?, h.tab.hD, this]
theorem Flo.lt (h : Flo w F sb cb tb db NN dist dia D) : tb < w.heap.size ∧ db < w.heap.size := ⟨(Array.getElem?_eq_some_iff.1 h.tab.ht).1, (Array.getElem?_eq_some_iff.1 h.tab.hD).1⟩
theorem Flo.nn (h : Flo w F sb cb tb db NN dist dia D) {a b : Nat} (ha : a < F.N) (hb : b < F.N) : a * F.N + b < NN := by
  have := h.tab.dv a b ha hb
  rw [← h.tab.ds]; exact (Array.getElem?_eq_some_iff.1 this).1
theorem Flo.ex (h : Flo w F sb cb tb db NN dist dia D) (z : World) : Flo (w.ext z) F sb cb tb db NN dist dia D := h.below (World.below_ext w z)
theorem Flo.al (h : Flo w F sb cb tb db NN dist dia D) (o : Obj) : Flo (w.alloc o) F sb cb tb db NN dist dia D := h.below ((Below.rf w).al o)
end

/-- 'x[lo:hi:hi]' of a slice of one-cell elements. -/
theorem slice_lhm {P : Program} (t e : TypeId) (ht : P.underlying t = some (.slice e)) (bytes : Nat) (z : Value) (hinfo : (P.info? e).map (fun i => (i.zero, i.size, i.bytes)) = some (some z, 1, bytes)) (b off len cap lo hi : Nat) (x y : Int) (hx : x = lo) (hy : y = hi) (h1 : lo < hi) (h2 : hi ≤ cap) (w : World) :
    (Instr.sliceAt t (.slice (some ⟨b, off, none⟩) len cap) (some (.int .i64 x)) (some (.int .i64 y)) (some (.int .i64 y))).run P w = .ok (.slice (some ⟨b, off + lo, none⟩) (hi - lo) (hi - lo)) w := by
  have he : P.elem t = e := by simp [Program.elem, ht]
  have ht' : P.underlying t = some (.slice (P.elem t)) := by rw [he]; exact ht
  obtain ⟨i, hi, hz0, hz1, hz2⟩ := info_parts hinfo
  subst hx hy
  rw [run_sliceAt_slice _ _ _ _ _ _ ht', run_slice_lhm _ _ _ _ _ ht' _ _ _ _ _ _ (by omega) (by omega) (by omega) (by omega)]
  have hsz : (sizeOf (P.elem t)).run P w = .ok 1 w := by rw [he]; simp [sizeOf, typeInfo, go_sem, hi, hz1]
  rw [hsz]
  simp only [Result.andThen, sliced, Int.toNat_natCast]
  rw [if_neg (by omega)]
  simp [Addr.add_lit]


set_option maxHeartbeats 1000000 in
theorem tableDist_any (F : FP) (sb cb tb db NN : Nat) (dist : Nat → Nat → Int) (dia : Int) (D : Array Value) (a b dd : Nat) (w : World) (h : Flo w F sb cb tb db NN dist dia D) (ha : a < F.N) (hb : b < F.N) (hd : F.dst a b = dd) :
    Calls Tryf.prog 41 #[.pointer (some ⟨F.fb, 0, none⟩), .int .i64 (a), .int .i64 (b)] w fun e w' => e = .returned (.int .i64 (dd)) ∧ ∃ z, w' = w.ext z := by
  have HH := hid h
  have k := h.k19
  have t0 := h.t0
  have t1 := h.t1
  have tv := h.tv ha hb
  have hl := h.lt
  have hn := h.nn ha hb
  have hN := h.hN
  have hds := (h.dst ha hb).2.2
  have hfb := h.fl.hdr.hfb
  rw [hd] at tv hds
  obtain ⟨an, han⟩ : ∃ an, an = a * F.N := ⟨_, rfl⟩
  rw [← han] at tv hn
  have e1 : (a : Int) * (F.N : Int) = an := by rw [han]; exact (Int.natCast_mul _ _).symm
  have hb2 : an ≤ 384 * 384 := by rw [han]; exact Nat.mul_le_mul (by omega) hN.2
  clear h hd han
  go_enter Tryf.func41, Tryf.ntmps41
  go_wp2_with (go_at_call 20; (first | with_reducible refine (valid_yes F a _ HH.out.fl ha).mono ?_ | with_reducible refine (valid_yes F b _ HH.out.fl hb).mono ?_); rintro e w ⟨rfl, rfl⟩)
  first | with_reducible refine wp_region_ext2 (by kernel_rfl) (by kernel_rfl) ?_ | refine wp_region_ext (by kernel_rfl) (by kernel_rfl) ?_
  repeat (go_big_quiet_step (fail))
  refine wpQuiet_nil ?_
  rintro _ ⟨z, rfl⟩
  go_wp2
  go_ret
  exact ⟨ret_int (by omega), ⟨_, rfl⟩⟩

end Go.Proofs.Qxb6500715aFmt
