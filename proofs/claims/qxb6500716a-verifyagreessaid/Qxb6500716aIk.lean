/-
  A copy of the table that is written: what stays true of it; and the list of such copies.
-/
import Derived.Test.Qxb6500716aUc
import Derived.Test.Qxb6500716aBb
import Derived.Test.Qxb6500716aTm
namespace Go.Proofs.Qxb6500716a
open Go.RowKit Go.Maps
set_option linter.unusedSimpArgs false
set_option linter.unusedVariables false
set_option maxRecDepth 20000
set_option maxHeartbeats 4000000
/-- What the changes of a table keep. -/
structure TK (T T' : TS) : Prop where
  fx : TFx T T'
  base : T'.base = T.base
  inv : TInv T → TInv T'
  cel : T.Cel → T'.Cel
theorem TK.rf (T : TS) : TK T T := ⟨TFx.rf T, rfl, id, id⟩
theorem TK.trans {T U V : TS} (h : TK T U) (k : TK U V) : TK T V := ⟨h.fx.trans k.fx, k.base.trans h.base, fun x => k.inv (h.inv x), fun x => k.cel (h.cel x)⟩
theorem TK.res (T : TS) (r c t : Int) : TK T (T.reserve r c t).2 := ⟨reserve_fx T r c t, reserve_base T r c t, fun h => h.reserve r c t, fun h => Cel.reserve h r c t⟩
theorem TK.path (T : TS) (r s : Int) (l : List Int) : TK T (T.path r s l).2.2 := ⟨path_fx T r s l, path_base T r s l, fun h => h.path r s l, fun h => Cel.path h r s l⟩
theorem TK.cut (T : TS) (r t : Int) : TK T (T.cutC r t).2.2 := ⟨cutC_fx T r t, cutC_base T r t, fun h => h.cutC r t, fun h => Cel.cutC h r t⟩
/-- Block t holds a table that came from T0 and lies in blocks that are not in w1. -/
structure CKs (w1 w : World) (t : Nat) (T0 : TS) (lab : Nat → Nat) (M : TM) (T : TS) : Prop where
  t : M.t = t
  at' : TAt w lab M T
  k : TK T0 T
  old : ∀ b, b < w1.heap.size → lab b = 0
  bl : Below w1.heap.size w1 w
def CK (w1 w : World) (t : Nat) (T0 : TS) : Prop := ∃ lab M T, CKs w1 w t T0 lab M T
theorem below_of_kept {lab : Nat → Nat} {A : Nat → Prop} {w w' w1 : World} (hk : KeptL lab A w w') (ho : ∀ b, b < w1.heap.size → lab b = 0) (hA : ¬ A 0) (hb : Below w1.heap.size w1 w) : Below w1.heap.size w1 w' :=
  hb.trans ⟨hk.os, hk.tape, hk.output, hk.size, fun b h => hk.block b (Nat.lt_of_lt_of_le h hb.size) (by rw [ho b h]; exact hA)⟩
theorem CKs.below {w1 w w' : World} {t : Nat} {T0 T : TS} {lab : Nat → Nat} {M : TM} (h : CKs w1 w t T0 lab M T) (hb : Below w.heap.size w w') : CKs w1 w' t T0 lab M T :=
  ⟨h.t, h.at'.below hb, h.k, h.old, h.bl.trans (hb.mono h.bl.size)⟩
theorem CK.below {w1 w w' : World} {t : Nat} {T0 : TS} (h : CK w1 w t T0) (hb : Below w.heap.size w w') : CK w1 w' t T0 := by
  obtain ⟨lab, M, T, h⟩ := h
  exact ⟨lab, M, T, h.below hb⟩
theorem CK.bl {w1 w : World} {t : Nat} {T0 : TS} (h : CK w1 w t T0) : Below w1.heap.size w1 w := by
  obtain ⟨lab, M, T, h⟩ := h
  exact h.bl
theorem clone_CK (M : TM) (T : TS) (lab : Nat → Nat) (w : World) (h : TAt w lab M T) : Calls Try.prog 19 #[.pointer (some ⟨M.t, 0, none⟩)] w fun e w' => ∃ t, e = .returned (.pointer (some ⟨t, 0, none⟩)) ∧ CK w w' t T ∧ t < w'.heap.size := by
  refine (clone_any M T lab w h).mono ?_
  rintro e w' ⟨labc, Mc, rfl, hTc, hlc, hb⟩
  exact ⟨Mc.t, rfl, ⟨labc, Mc, T, rfl, hTc, TK.rf T, hlc, hb⟩, hTc.bt.lt⟩
theorem CK.cut {w1 w : World} {t : Nat} {T0 : TS} (h : CK w1 w t T0) (r u : Int) (hu : I64 u) : Calls Try.prog 52 #[.pointer (some ⟨t, 0, none⟩), .int .i64 (r), .int .i64 (u)] w fun e w' => (∃ a b, e = .returned (.tuple #[.int .i64 (a), .int .i64 (b)])) ∧ CK w1 w' t T0 := by
  obtain ⟨lab, M, T, h⟩ := h
  obtain ⟨ht, hT, hk, ho, hb⟩ := h
  subst ht
  refine (cutC_any M T lab r u w hT hu).mono ?_
  rintro e w' ⟨lab', M', rfl, hT', ht', -, hl', hk'⟩
  exact ⟨⟨_, _, rfl⟩, lab', M', _, ht', hT', hk.trans (TK.cut T r u), fun b hb' => (hl' b (Nat.lt_of_lt_of_le hb' hb.size)).trans (ho b hb'), below_of_kept hk' ho (by unfold tabL; omega) hb⟩
theorem CK.res {w1 w : World} {t : Nat} {T0 : TS} (h : CK w1 w t T0) (hh : T0.held ≤ T0.cap) (r c u : Int) (hr : I64 r) (hc : I64 c) (hu : I64 u) : Calls Try.prog 72 #[.pointer (some ⟨t, 0, none⟩), .int .i64 (r), .int .i64 (c), .int .i64 (u)] w fun e w' => (∃ a, e = .returned (.int .i64 (a))) ∧ CK w1 w' t T0 := by
  obtain ⟨lab, M, T, h⟩ := h
  obtain ⟨ht, hT, hk, ho, hb⟩ := h
  subst ht
  refine (reserve_any M T lab r c u w hT (hk.fx.held hh) hr hc hu).mono ?_
  rintro e w' ⟨rfl, hT', hk'⟩
  exact ⟨⟨_, rfl⟩, lab, M, _, rfl, hT', hk.trans (TK.res T r c u), ho, below_of_kept hk' ho (by omega) hb⟩
theorem CK.path {w1 wa w : World} {t : Nat} {T0 : TS} (h : CK w1 wa t T0) (hba : Below wa.heap.size wa w) (hh : T0.held ≤ T0.cap) (r u : Int) (hr : I64 r) (hu : I64 u) (b : Nat) (hb1 : wa.heap.size ≤ b) (hb2 : b < w.heap.size) (x y : Int) (hx : I64 x) (hy : I64 y) (c0 : w.cell? ⟨b, 0, none⟩ = some (.int .i64 (x))) (c1 : w.cell? ⟨b, 1, none⟩ = some (.int .i64 (y))) : Calls Try.prog 51 #[.pointer (some ⟨t, 0, none⟩), .int .i64 (r), .int .i64 (u), .slice (some ⟨b, 0, none⟩) 2 2] w fun e w' => (∃ a b, e = .returned (.tuple #[.int .i64 (a), .int .i64 (b)])) ∧ CK w1 w' t T0 := by
  obtain ⟨lab, M, T, h⟩ := h
  obtain ⟨ht, hT, hk, ho, hb⟩ := h
  subst ht
  have hl : ∀ i, i < wa.heap.size → (fun i => if i < wa.heap.size then lab i else 0) i = lab i := fun i hi => if_pos hi
  have hT2 := (hT.relab hl).below hba
  have hI : Ints w (fun i => if i < wa.heap.size then lab i else 0) (.slice (some ⟨b, 0, none⟩) 2 2) [x, y] := by
    refine ⟨⟨_, 2, rfl, Nat.le_refl _⟩, by simp, fun c hc => ?_, fun j c hj => ?_⟩
    · simp at hc
      rcases hc with rfl | rfl
      · exact hx
      · exact hy
    · refine ⟨b, 0, 2, 2, rfl, hb2, Or.inl (if_neg (by omega)), ?_⟩
      match j with
      | 0 =>
        simp at hj
        subst hj
        exact c0
      | 1 =>
        simp at hj
        subst hj
        exact c1
      | j + 2 => simp at hj
  have hbb := hb.trans (hba.mono hb.size)
  have ho2 : ∀ i, i < w1.heap.size → (fun i => if i < wa.heap.size then lab i else 0) i = 0 := fun i hi => (hl i (Nat.lt_of_lt_of_le hi hb.size)).trans (ho i hi)
  refine (path_any M T _ r u _ [x, y] w hT2 (hk.fx.held hh) hr hu hI).mono ?_
  rintro e w' ⟨rfl, hT', hk'⟩
  exact ⟨⟨_, _, rfl⟩, _, M, _, rfl, hT', hk.trans (TK.path T r u _), ho2, below_of_kept hk' ho2 (by omega) hbb⟩
/-- One of the copies. -/
structure Cp where
  M : TM
  lab : Nat → Nat
  T : TS
/-- A list of copies, all in blocks that are not in w0. -/
structure Ov (w0 w : World) (v : Value) (T0 : TS) (k : Nat) (L : List Cp) (labO : Nat → Nat) : Prop where
  bl : Below w0.heap.size w0 w
  len : L.length = k
  lst : LAt w labO 1 1 v k (L.map fun x => .pointer (some ⟨x.M.t, 0, none⟩))
  oo : ∀ b, b < w0.heap.size → labO b ≠ 1
  tb : ∀ x, x ∈ L → TAt w x.lab x.M x.T ∧ TK T0 x.T ∧ (∀ b, b < w0.heap.size → x.lab b = 0) ∧ ∀ b, b < w.heap.size → labO b = 1 → x.lab b = 0
def OV (w0 w : World) (v : Value) (T0 : TS) (k : Nat) : Prop := ∃ L labO, Ov w0 w v T0 k L labO
/-- The table in a copy. -/
theorem OV.bl {w0 w : World} {v : Value} {T0 : TS} {k : Nat} (h : OV w0 w v T0 k) : Below w0.heap.size w0 w := by
  obtain ⟨L, lo, h⟩ := h
  exact h.bl
theorem OV.below {w0 w w' : World} {v : Value} {T0 : TS} {k : Nat} (h : OV w0 w v T0 k) (hb : Below w.heap.size w w') : OV w0 w' v T0 k := by
  obtain ⟨L, lo, h⟩ := h
  refine ⟨L.map fun x => ⟨x.M, fun b => if b < w.heap.size then x.lab b else 0, x.T⟩, lo, h.bl.trans (hb.mono h.bl.size), by simp [h.len], ?_, ?_, fun x hx => ?_⟩
  · have := h.lst.below hb
    rw [List.map_map]
    exact this
  · exact h.oo
  · obtain ⟨y, hy, rfl⟩ := List.mem_map.1 hx
    obtain ⟨h1, h2, h3, h4⟩ := h.tb y hy
    refine ⟨(h1.relab (fun b hb => if_pos hb)).below hb, h2, fun b hb' => (if_pos (Nat.lt_of_lt_of_le hb' h.bl.size)).trans (h3 b hb'), fun b _ hl => ?_⟩
    show (if b < w.heap.size then y.lab b else 0) = 0
    split
    · rename_i hbb
      exact h4 b hbb hl
    · rfl
theorem OV.nil (w : World) (T0 : TS) : OV w w (.slice none 0 0) T0 0 := ⟨[], fun _ => 0, Below.rf w, rfl, LAt.nil _ _ _ _, fun _ _ => by simp, fun x hx => by simp at hx⟩
theorem OV.low {w0 w2 w : World} {v : Value} {T0 : TS} {k : Nat} (h : OV w2 w v T0 k) (hb : Below w0.heap.size w0 w2) : OV w0 w v T0 k := by
  obtain ⟨L, lo, h⟩ := h
  exact ⟨L, lo, hb.trans (h.bl.mono hb.size), h.len, h.lst, fun b hb' => h.oo b (Nat.lt_of_lt_of_le hb' hb.size), fun x hx => ⟨(h.tb x hx).1, (h.tb x hx).2.1, fun b hb' => (h.tb x hx).2.2.1 b (Nat.lt_of_lt_of_le hb' hb.size), (h.tb x hx).2.2.2⟩⟩
/-- 'append(out, w)'. -/
theorem wpl_cp {ops : Array Oper} {rest : List Oper} {o : Oper} {a : Act} {Q : Exit → Act → World → Prop} (hgd : o.guard = none) (s x : Operand) (t e : TypeId) (z : Value) (bytes : Nat)
    (ho : o.op = .call { callee := .builtin .append, args := #[s, x], argTypes := #[t, t] })
    (ht : Try.prog.underlying t = some (.slice e)) (hinfo : (Try.prog.info? e).map (fun i => (i.zero, i.size, i.bytes)) = some (some z, 1, bytes)) (hzs : z.cells.size = 1)
    {w0 wr w1 w : World} {v : Value} {T0 : TS} {k : Nat} (hO : OV w0 wr v T0 k) (h1 : Below wr.heap.size wr w1) {tb : Nat} (hC : CK w1 w tb T0) (hs : a.eval s = v) (hkb : (k + 1) * bytes ≤ 140737488355328) (hk2 : k + 1 ≤ 140737488355328)
    (b2 : Nat) (hx : a.eval x = .slice (some ⟨b2, 0, none⟩) 1 1) (hnews : w.cell? ⟨b2, 0, none⟩ = some (.pointer (some ⟨tb, 0, none⟩)))
    (h : ∀ v' w', OV w0 w' v' T0 (k + 1) → wpList Try.prog ops Q rest (a.put o.dst v') w') : wpList Try.prog ops Q (o :: rest) a w := by
  obtain ⟨L, lo, hL⟩ := hO
  obtain ⟨lab, M, T, hC⟩ := hC
  have hb1 : Below wr.heap.size wr w := h1.trans (hC.bl.mono h1.size)
  have hl1 : LAt w (fun b => if b < wr.heap.size then lo b else 0) 1 1 v k (L.map fun x => .pointer (some ⟨x.M.t, 0, none⟩)) := (hL.lst.relab (fun b hb => if_pos hb)).below hb1
  refine wpl_ls hgd s x t e z 1 bytes ho ht hinfo hzs (by omega) _ 1 v k _ hs hl1 b2 1 1 [.pointer (some ⟨tb, 0, none⟩)] (by omega) hkb hk2 hx rfl (fun j u hj => ?_) (fun u hu => ?_) ?_
  · cases j with
    | zero =>
      simp at hj
      subst hj
      exact hnews
    | succ j => simp at hj
  · simp at hu
    subst hu
    rfl
  intro v' w' lab' hl' hlb hk'
  have hw0 : ∀ b, b < w0.heap.size → b < wr.heap.size := fun b hb => Nat.lt_of_lt_of_le hb hL.bl.size
  have hsw : ∀ b, b < wr.heap.size → b < w.heap.size := fun b hb => Nat.lt_of_lt_of_le hb hb1.size
  have hlo : ∀ b, (if b < wr.heap.size then lo b else 0) = 1 → b < wr.heap.size ∧ lo b = 1 := fun b hb => by
    split at hb
    · rename_i hbb
      exact ⟨hbb, hb⟩
    · cases hb
  refine h v' w' ⟨(L.map fun x => ⟨x.M, fun b => if b < wr.heap.size then x.lab b else 0, x.T⟩) ++ [⟨M, fun b => if b < w.heap.size then lab b else 0, T⟩], lab', ?_, by simp [hL.len], ?_, fun b hb => ?_, fun x hx => ?_⟩
  · refine (hL.bl.trans (hb1.mono hL.bl.size)).trans ⟨hk'.os, hk'.tape, hk'.output, hk'.size, fun b hb => hk'.block b (hsw b (hw0 b hb)) ?_⟩
    rw [if_pos (hw0 b hb)]
    exact hL.oo b hb
  · rw [List.map_append, List.map_map]
    have : [(.pointer (some ⟨tb, 0, none⟩) : Value)] = List.map (fun x : Cp => (.pointer (some ⟨x.M.t, 0, none⟩) : Value)) [⟨M, fun b => if b < w.heap.size then lab b else 0, T⟩] := by simp [hC.t]
    rw [this] at hl'
    exact hl'
  · rw [hlb b (hsw b (hw0 b hb)), if_pos (hw0 b hb)]
    exact hL.oo b hb
  · rcases List.mem_append.1 hx with hx | hx
    · obtain ⟨y, hy, rfl⟩ := List.mem_map.1 hx
      obtain ⟨t1, t2, t3, t4⟩ := hL.tb y hy
      refine ⟨?_, t2, fun b hb => (if_pos (hw0 b hb)).trans (t3 b hb), fun b hb hlb1 => ?_⟩
      · refine ((t1.relab (fun b hb => if_pos hb)).below hb1).keptL (A := fun x => x = 0) ⟨hk'.os, hk'.tape, hk'.output, hk'.size, fun b hb hn => hk'.block b hb (fun hlb1 => hn ?_)⟩ (by omega) (by omega) (by omega)
        obtain ⟨q1, q2⟩ := hlo b hlb1
        exact (if_pos q1).trans (t4 b q1 q2)
      · show (if b < wr.heap.size then y.lab b else 0) = 0
        split
        · rename_i q1
          rw [hlb b (hsw b q1), if_pos q1] at hlb1
          exact t4 b q1 hlb1
        · rfl
    · simp only [List.mem_singleton] at hx
      subst hx
      refine ⟨?_, hC.k, fun b hb => (if_pos (hsw b (hw0 b hb))).trans (hC.old b (Nat.lt_of_lt_of_le (hw0 b hb) h1.size)), fun b hb hlb1 => ?_⟩
      · refine (hC.at'.relab (fun b hb => if_pos hb)).keptL (A := fun x => x = 0) ⟨hk'.os, hk'.tape, hk'.output, hk'.size, fun b hb hn => hk'.block b hb (fun hlb1 => hn ?_)⟩ (by omega) (by omega) (by omega)
        obtain ⟨q1, q2⟩ := hlo b hlb1
        exact (if_pos hb).trans (hC.old b (Nat.lt_of_lt_of_le q1 h1.size))
      · show (if b < w.heap.size then lab b else 0) = 0
        split
        · rename_i q0
          rw [hlb b q0] at hlb1
          obtain ⟨q1, q2⟩ := hlo b hlb1
          exact hC.old b (Nat.lt_of_lt_of_le q1 h1.size)
        · rfl
end Go.Proofs.Qxb6500716a
