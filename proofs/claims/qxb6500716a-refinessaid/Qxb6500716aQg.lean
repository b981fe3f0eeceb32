/-
  trace: the walk.
-/
import Derived.Test.Qxb6500716aQe
namespace Go.Proofs.Qxb6500716a
open Go.RowKit Go.Maps
set_option linter.unusedSimpArgs false
set_option linter.unusedVariables false
set_option maxRecDepth 20000
set_option maxHeartbeats 4000000

/-- An answer in memory. -/
def PlV (w : World) (lab : Nat → Nat) (v : Value) (p : Pl) : Prop :=
  ∃ pv dv, v = .agg #[.int .u8 (p.c), .int .i64 (p.t), pv, dv, .int .i64 (p.x)] ∧ Ints w lab pv p.path ∧ Ints w lab dv p.done ∧ (p.c ≠ 0 → pv = .slice none 0 0 ∧ dv = .slice none 0 0)
def tracePost (p : Pl) (w : World) (e : Ending) (w' : World) : Prop :=
  ∃ v, e = .returned v ∧ Below w.heap.size w w' ∧ ∀ lab : Nat → Nat, (∀ k, w.heap.size ≤ k → lab k = 0) → PlV w' lab v p
/-- The state of the walk. -/
structure TrS (w : World) (pb db eb L K : Nat) (t x : Int) (wr : World) (p d : Nat → Int) : Prop where
  bp : Blk wr pb L (fun i => .int .i64 (p i))
  bd : Blk wr db K (fun i => .int .i64 (d i))
  be : Blk wr eb 5 (c5f (.int .u8 0) (.int .i64 (t)) (.slice (some ⟨pb, 0, none⟩) L L) (.slice (some ⟨db, 0, none⟩) K K) (.int .i64 (x)))
  br : Blk wr w.heap.size 5 (c5f (.int .u8 0) (.int .i64 (0)) (.slice none 0 0) (.slice none 0 0) (.int .i64 (0)))
  k : Below w.heap.size w wr
  ip : ∀ i, I64 (p i)
  id : ∀ i, I64 (d i)
structure TrD (w : World) (pb db eb : Nat) : Prop where
  p : w.heap.size < pb
  d : w.heap.size < db
  e : w.heap.size < eb
  pd : pb ≠ db
  pe : pb ≠ eb
  de : db ≠ eb
section
variable {w wr w' : World} {pb db eb L K : Nat} {t x : Int} {p d : Nat → Int}
theorem TrS.below (h : TrS w pb db eb L K t x wr p d) (hb : Below wr.heap.size wr w') : TrS w pb db eb L K t x w' p d :=
  ⟨h.bp.below hb, h.bd.below hb, h.be.below hb, h.br.below hb, h.k.trans (hb.mono h.k.size), h.ip, h.id⟩
theorem TrS.setP (h : TrS w pb db eb L K t x wr p d) (hD : TrD w pb db eb) (j : Nat) (c : Int) (hj : j < L) (hc : I64 c) : TrS w pb db eb L K t x (wr.setCell ⟨pb, j, none⟩ (.int .i64 (c))) (upd p j c) d := by
  have hk : KeptBut pb wr (wr.setCell ⟨pb, j, none⟩ (.int .i64 (c))) := (KeptBut.refl pb wr).set (Or.inl rfl) _
  obtain ⟨d1, d2, d3, d4, d5, d6⟩ := hD
  refine ⟨(h.bp.set j _ hj).congr (fun i hi => ?_), h.bd.kept hk (by omega), h.be.kept hk (by omega), h.br.kept hk (by omega), h.k.setCell (by simp; omega) _, fun i => ?_, h.id⟩
  · unfold upd; split <;> rfl
  · unfold upd; split
    · exact hc
    · exact h.ip i
theorem TrS.setD (h : TrS w pb db eb L K t x wr p d) (hD : TrD w pb db eb) (j : Nat) (c : Int) (hj : j < K) (hc : I64 c) : TrS w pb db eb L K t x (wr.setCell ⟨db, j, none⟩ (.int .i64 (c))) p (upd d j c) := by
  have hk : KeptBut db wr (wr.setCell ⟨db, j, none⟩ (.int .i64 (c))) := (KeptBut.refl db wr).set (Or.inl rfl) _
  obtain ⟨d1, d2, d3, d4, d5, d6⟩ := hD
  refine ⟨h.bp.kept hk (by omega), (h.bd.set j _ hj).congr (fun i hi => ?_), h.be.kept hk (by omega), h.br.kept hk (by omega), h.k.setCell (by simp; omega) _, h.ip, fun i => ?_⟩
  · unfold upd; split <;> rfl
  · unfold upd; split
    · exact hc
    · exact h.id i
theorem TrS.congr {p' d' : Nat → Int} (h : TrS w pb db eb L K t x wr p d) (hp : ∀ i, p' i = p i) (hd : ∀ i, d' i = d i) : TrS w pb db eb L K t x wr p' d' := by
  obtain rfl : p' = p := funext hp
  obtain rfl : d' = d := funext hd
  exact h
end
theorem ints_of_blk {w : World} {lab : Nat → Nat} {b L : Nat} {p : Nat → Int} (h : Blk w b L (fun i => .int .i64 (p i))) (hl : lab b = 0) (hi : ∀ i, I64 (p i)) (hL : L ≤ 1000) : Ints w lab (.slice (some ⟨b, 0, none⟩) L L) (lst L p) := by
  refine ⟨⟨some ⟨b, 0, none⟩, L, by rw [lst_len], by rw [lst_len]; omega⟩, by rw [lst_len]; omega, fun c hc => ?_, fun j c hj => ?_⟩
  · unfold lst at hc
    simp only [List.mem_map] at hc
    obtain ⟨i, -, rfl⟩ := hc
    exact hi i
  · have hj2 := (List.getElem?_eq_some_iff.1 hj).1
    rw [lst_len] at hj2
    rw [lst_at _ _ _ hj2] at hj
    simp only [Option.some.injEq] at hj
    subst hj
    exact ⟨b, 0, L, L, rfl, h.lt, Or.inl hl, by rw [Nat.zero_add]; exact h.is j hj2⟩
theorem filP_at (p : Nat → Int) (a : Nat) (c : Int) (i : Nat) : filP p a a c i = p i := by unfold filP; rw [if_neg (by omega)]
theorem filP_up (p : Nat → Int) (a j : Nat) (c : Int) (h : a ≤ j) (i : Nat) : filP p a (j + 1) c i = upd (filP p a j c) j c i := by
  unfold filP upd
  by_cases e : i = j
  · subst e; rw [if_pos ⟨h, by omega⟩, if_pos rfl]
  · rw [if_neg e]
    by_cases e2 : a ≤ i ∧ i < j
    · rw [if_pos ⟨e2.1, by omega⟩]; exact (if_pos e2).symm
    · rw [if_neg (fun h => e2 ⟨h.1, by omega⟩)]; exact (if_neg e2).symm
def trR (id o K nn ncap rb nb : Nat) (no go : Option Addr) (gc : Nat) (t x : Int) (w : World) (a a' : Act) (w3 : World) : Prop :=
  ∃ pb db eb, (w.heap.size ≤ pb ∧ w.heap.size ≤ db ∧ w.heap.size ≤ eb ∧ pb ≠ db ∧ pb ≠ eb ∧ db ≠ eb) ∧ Blk w3 pb (o + 1) (fun _ => .int .i64 (0)) ∧ Blk w3 db K (fun _ => .int .i64 (0)) ∧ Blk w3 eb 5 (c5f (.int .u8 0) (.int .i64 (t)) (.slice (some ⟨pb, 0, none⟩) (o + 1) (o + 1)) (.slice (some ⟨db, 0, none⟩) K K) (.int .i64 (x))) ∧ Below w.heap.size w w3 ∧
    a' = ((((((((((((((((((((((a.put (some 21) (.pointer (some ⟨rb, 0, none⟩))).put (some 22) (.pointer (some ⟨rb, 0, none⟩))).put (some 23) (.pointer (some ⟨rb, 1, none⟩))).put (some 24) (.pointer (some ⟨rb, 3, none⟩))).put (some 25) (.int .i64 (t))).put (some 26) (.slice (some ⟨nb, 0, none⟩) nn ncap)).put (some 27) (.int .i64 (id))).put (some 28) (.pointer (some ⟨nb, id * 4, none⟩))).put (some 29) (.pointer (some ⟨nb, id * 4 + 1, none⟩))).put (some 30) (.int .i64 (o))).put (some 31) (.int .i64 ((o : Int) + 1))).put (some 32) (.slice (some ⟨pb, 0, none⟩) (o + 1) (o + 1))).put (some 33) (.pointer (some ⟨rb, 0, none⟩))).put (some 34) (.pointer (some ⟨rb, 0, none⟩))).put (some 35) (.pointer (some ⟨rb, 1, none⟩))).put (some 36) (.pointer (some ⟨rb, 4, none⟩))).put (some 37) (.slice go K gc)).put (some 38) (.int .i64 (K))).put (some 39) (.slice (some ⟨db, 0, none⟩) K K)).put (some 40) (.int .i64 (x))).put (some 41) (.agg #[.int .u8 (0), .int .i64 (t), .slice (some ⟨pb, 0, none⟩) (o + 1) (o + 1), .slice (some ⟨db, 0, none⟩) K K, .int .i64 (x)])).put (some 8) (.pointer (some ⟨eb, 0, none⟩)))
set_option maxHeartbeats 40000000 in
theorem trace_any (M : TM) (T : TS) (N : PM) (S : PS) (n rb fb : Nat) (F : FS) (lab : Nat → Nat) (q : Rq) (gv tv av : Value) (bay hz : Int) (id : Nat) (y : Nd) (x : Int) (w : World) (hA : Al w lab M T N S n rb fb F q gv tv av bay hz) (hO : Rok F T q bay hz) (hS : TrOk S.nd) (hN : ∀ y, y ∈ S.nd → y.c < 1000 ∧ y.o ≤ 255 ∧ y.l ≤ q.gl.length) (hl : S.nd.length ≤ 800000000) (hid2 : S.nd[id]? = some y) :
    Calls Try.prog 89 #[.pointer (some ⟨rb, 0, none⟩), .int .i64 (id), .int .i64 (x)] w (tracePost (Pl.trace S.nd q id x) w) := by
  have hil := (List.getElem?_eq_some_iff.1 hid2).1
  obtain ⟨-, hyo, hyl⟩ := hN y (List.mem_of_getElem? hid2)
  have HN := hid hN
  obtain ⟨nb, nc, hnv, hncc, hnl, -, hcell⟩ := hA.p.bn.see (by omega)
  have HC := hid hcell
  obtain ⟨e0, e1, e2, e3⟩ := nrow_at S.nd id y hid2
  have q1 := hcell _ _ e1
  have r0 : w.cell? ⟨rb, 0, none⟩ = some (.pointer (some ⟨N.p, 0, none⟩)) := hA.r.b.is 0 (by omega)
  have r3 : w.cell? ⟨rb, 3, none⟩ = some (.int .i64 (q.t)) := hA.r.b.is 3 (by omega)
  have r4 : w.cell? ⟨rb, 4, none⟩ = some gv := hA.r.b.is 4 (by omega)
  obtain ⟨go, gc, hgv, -⟩ := hA.r.g.ex
  have c4 := hA.p.c4
  rw [hnv] at c4
  have hrl := hA.r.b.lt
  have hpl := hA.p.bp.lt
  have hbb := hA.t.bd.base
  have hTt := hO.t
  have hk16 := hO.gok.1
  have HY := hid hid2
  have HS := hid hS
  have HP : Hid (∀ e w', tracePost (Pl.trace S.nd q id x) w e w' → tracePost (Pl.trace S.nd q id x) w e w') := fun _ _ h => h
  obtain ⟨K, hk⟩ : ∃ k, q.gl.length = k := ⟨_, rfl⟩
  rw [hgv, hk] at r4
  rw [hk] at hk16 hyl
  have HK := hid hk
  obtain ⟨nn, hnn⟩ : ∃ k, S.nd.length = k := ⟨_, rfl⟩
  rw [hnn] at c4 hil hncc hl
  have HNN := hid hnn
  generalize hpost : tracePost (Pl.trace S.nd q id x) w = post at *
  have HPO := hid hpost
  clear hN hA hO hS hcell e0 e1 e2 e3 hnv hid2 hgv hk hnn hpost
  obtain ⟨t, ht⟩ : ∃ t, q.t = t := ⟨_, rfl⟩
  have HT := hid ht
  rw [ht] at r3 hTt
  obtain ⟨o, ho⟩ : ∃ t, y.o = t := ⟨_, rfl⟩
  have HO := hid ho
  rw [ho] at q1 hyo
  clear ht ho
  have HR3 := hid r3
  obtain ⟨Z, hz1, hz2, hz3⟩ := make_is (P := Try.prog) 32 3 (.int .i64 (0)) 1 8 Try.underlying32 (by kernel_rfl) (o + 1) (by omega) (by omega)
  have hz4 : ∀ (kl kc : IntKind) (w : World), (Instr.makeSlice 32 (.int kl ((o : Int) + 1)) (.int kc ((o : Int) + 1))).run Try.prog w = .ok (.slice (some ⟨w.heap.size, 0, none⟩) (o + 1) (o + 1)) (w.alloc (.cells Z 3)) := hz3
  obtain ⟨Y, hy1, hy2, hy3⟩ := make_is (P := Try.prog) 32 3 (.int .i64 (0)) 1 8 Try.underlying32 (by kernel_rfl) K (by omega) (by omega)
  have HZ := hid hz2
  have HYY := hid hy2
  have hw1 : IntKind.i64.wrap ((o : Int) + 1) = (o : Int) + 1 := by simp [IntKind.wrap, IntKind.bits, IntKind.signed]; omega
  clear hz1 hz2 hz3 hy1 hy2
  go_enter Try.func89, Try.ntmps89
  go_wp2
  refine region_via (trR id o K nn nc rb nb none go gc t x (w.alloc (Obj.cells #[.int .u8 0, .int .i64 (0), .slice none 0 0, .slice none 0 0, .int .i64 (0)] 34))) ?_ ?_
  · have b1 : Below w.heap.size w (w.alloc (Obj.cells #[.int .u8 0, .int .i64 (0), .slice none 0 0, .slice none 0 0, .int .i64 (0)] 34)) := (Below.rf w).al _
    generalize (w.alloc (Obj.cells #[.int .u8 0, .int .i64 (0), .slice none 0 0, .slice none 0 0, .int .i64 (0)] 34)) = w1 at *
    have r3' : w1.cell? ⟨rb, 3, none⟩ = some (.int .i64 (t)) := (World.cell?_of_block (b1.block rb hrl)).trans r3
    have r4' : w1.cell? ⟨rb, 4, none⟩ = some (.slice go K gc) := (World.cell?_of_block (b1.block rb hrl)).trans r4
    have q1' : w1.cell? ⟨nb, id * 4 + 1, none⟩ = some (.int .i64 (o)) := (World.cell?_of_block (b1.block nb hnl)).trans q1
    have hrl' : rb < w1.heap.size := Nat.lt_of_lt_of_le hrl b1.size
    have hnl' : nb < w1.heap.size := Nat.lt_of_lt_of_le hnl b1.size
    clear r3 r4 q1 hrl hnl r0 c4 hpl b1
    --BEGIN 1
    refine wp_region_tree 22 (fun w' => w'.cell? ⟨rb, 3, none⟩ = some (.int .i64 (t)) ∧ w'.cell? ⟨rb, 4, none⟩ = some (.slice go K gc) ∧ w'.cell? ⟨nb, id * 4 + 1, none⟩ = some (.int .i64 (o))) (.q 0 false (.q 1 false (.q 2 false (.q 3 false (.q 4 true (.q 5 false (.q 6 false (.q 7 false (.q 8 false (.q 9 true (.q 10 false (.q 12 false (.q 13 false (.q 14 false (.q 15 false (.q 16 true (.q 17 false (.q 19 false (.three 11 18 21 (.two 18 21 (.q 20 false (.one 21 true (.one 22 false .nil))) (.one 18 true (.q 20 false (.one 22 false .nil)))) (.two 11 21 (.q 20 false (.one 21 true (.one 22 false .nil))) (.one 11 true (.q 20 false (.one 22 false .nil)))) (.two 11 18 (.one 18 true (.q 20 false (.one 22 false .nil))) (.one 11 true (.q 20 false (.one 22 false .nil))))))))))))))))))))))) (by kernel_rfl) (by kernel_rfl) (by kernel_rfl) ?_ ?_
    · simp [go_sem, ↓IntWalk.iteOmega, *]
    repeat (first | (refine wpTr_qf (v := ?_) rfl rfl ?_ ?_; rotate_left; focus (intro w; go_simp; (try (with_reducible rfl)); done); try simp only [List.getElem_toArray, List.getElem_cons_zero, List.getElem_cons_succ, Act.put, List.setIfInBounds_toArray, List.set_cons_zero, List.set_cons_succ]) | (refine wpTr_qt (v := ?_) rfl rfl ?_ ?_; rotate_left; focus (intro w hSw; (try dsimp only at hSw); go_simp; (try (with_reducible rfl)); done); try simp only [List.getElem_toArray, List.getElem_cons_zero, List.getElem_cons_succ, Act.put, List.setIfInBounds_toArray, List.set_cons_zero, List.set_cons_succ]))
    refine wpTr_three rfl rfl rfl rfl rfl rfl ?_ ?_ ?_
    · intro K' hK
      go_simp
      refine hK.out _ _ (by simp [go_sem, ↓IntWalk.iteOmega, *]) ?_
      clear hK K'
      refine wpTr_two rfl rfl rfl rfl ?_ ?_
      · intro K' hK
        go_simp
        refine hK.out _ _ (by simp [go_sem, ↓IntWalk.iteOmega, *]) ?_
        clear hK K'
        repeat (first | (refine wpTr_qf (v := ?_) rfl rfl ?_ ?_; rotate_left; focus (intro w; go_simp; (try (with_reducible rfl)); done); try simp only [List.getElem_toArray, List.getElem_cons_zero, List.getElem_cons_succ, Act.put, List.setIfInBounds_toArray, List.set_cons_zero, List.set_cons_succ]) | (refine wpTr_qt (v := ?_) rfl rfl ?_ ?_; rotate_left; focus (intro w hSw; (try dsimp only at hSw); go_simp; (try (with_reducible rfl)); done); try simp only [List.getElem_toArray, List.getElem_cons_zero, List.getElem_cons_succ, Act.put, List.setIfInBounds_toArray, List.set_cons_zero, List.set_cons_succ]))
        refine wpTr_one rfl rfl (fun K hK => ?_)
        go_simp
        refine hK.out _ _ (fun _ => by simp [go_sem, ↓IntWalk.iteOmega, *]) ?_
        clear hK K
        repeat (first | (refine wpTr_qf (v := ?_) rfl rfl ?_ ?_; rotate_left; focus (intro w; go_simp; (try (with_reducible rfl)); done); try simp only [List.getElem_toArray, List.getElem_cons_zero, List.getElem_cons_succ, Act.put, List.setIfInBounds_toArray, List.set_cons_zero, List.set_cons_succ]) | (refine wpTr_qt (v := ?_) rfl rfl ?_ ?_; rotate_left; focus (intro w hSw; (try dsimp only at hSw); go_simp; (try (with_reducible rfl)); done); try simp only [List.getElem_toArray, List.getElem_cons_zero, List.getElem_cons_succ, Act.put, List.setIfInBounds_toArray, List.set_cons_zero, List.set_cons_succ]))
        refine wpTr_one rfl rfl (fun K hK => ?_)
        go_simp
        refine hK.out _ _ (fun h => by cases h) ?_
        clear hK K
        refine wpTr_nil ?_
        refine NoPanic.normal ?_
        refine ⟨rfl, w1.heap.size, w1.heap.size + 1, w1.heap.size + 1 + 1, ⟨by omega, by omega, by omega, by omega, by omega, by omega⟩, ⟨by (simp <;> omega), fun i hi => by simp [go_sem, ↓IntWalk.iteOmega, HZ.out, hi, made1], fun i hi => by simp [go_sem, ↓IntWalk.iteOmega]⟩, ⟨by (simp <;> omega), fun i hi => by simp [go_sem, ↓IntWalk.iteOmega, HYY.out, hi, made1], fun i hi => by simp [go_sem, ↓IntWalk.iteOmega]⟩, ⟨by (simp <;> omega), fun i hi => by (rcases (by omega : i = 0 ∨ i = 1 ∨ i = 2 ∨ i = 3 ∨ i = 4) with rfl | rfl | rfl | rfl | rfl <;> simp [go_sem, ↓IntWalk.iteOmega, c5f]), fun i hi => by simp [go_sem, ↓IntWalk.iteOmega]⟩, by (repeat (first | with_reducible exact Below.rf _ | with_reducible exact World.below_ext _ _ | with_reducible refine Below.ex ?_ _ | with_reducible refine Below.al ?_ _ | with_reducible refine Below.setCell ?_ (by simp) _ | with_reducible refine Below.drew ?_)), by simp only [Act.put, List.setIfInBounds_toArray, List.set_cons_zero, List.set_cons_succ]⟩
      · intro K' hK
        go_simp
        refine hK.out _ _ (by simp [go_sem, ↓IntWalk.iteOmega, *]) ?_
        clear hK K'
        refine wpTr_one rfl rfl (fun K hK => ?_)
        go_simp
        refine hK.out _ _ (fun _ => by simp [go_sem, ↓IntWalk.iteOmega, *]) ?_
        clear hK K
        repeat (first | (refine wpTr_qf (v := ?_) rfl rfl ?_ ?_; rotate_left; focus (intro w; go_simp; (try (with_reducible rfl)); done); try simp only [List.getElem_toArray, List.getElem_cons_zero, List.getElem_cons_succ, Act.put, List.setIfInBounds_toArray, List.set_cons_zero, List.set_cons_succ]) | (refine wpTr_qt (v := ?_) rfl rfl ?_ ?_; rotate_left; focus (intro w hSw; (try dsimp only at hSw); go_simp; (try (with_reducible rfl)); done); try simp only [List.getElem_toArray, List.getElem_cons_zero, List.getElem_cons_succ, Act.put, List.setIfInBounds_toArray, List.set_cons_zero, List.set_cons_succ]))
        refine wpTr_one rfl rfl (fun K hK => ?_)
        go_simp
        refine hK.out _ _ (fun h => by cases h) ?_
        clear hK K
        refine wpTr_nil ?_
        refine NoPanic.normal ?_
        refine ⟨rfl, w1.heap.size, w1.heap.size + 1 + 1, w1.heap.size + 1, ⟨by omega, by omega, by omega, by omega, by omega, by omega⟩, ⟨by (simp <;> omega), fun i hi => by simp [go_sem, ↓IntWalk.iteOmega, HZ.out, hi, made1], fun i hi => by simp [go_sem, ↓IntWalk.iteOmega]⟩, ⟨by (simp <;> omega), fun i hi => by simp [go_sem, ↓IntWalk.iteOmega, HYY.out, hi, made1], fun i hi => by simp [go_sem, ↓IntWalk.iteOmega]⟩, ⟨by (simp <;> omega), fun i hi => by (rcases (by omega : i = 0 ∨ i = 1 ∨ i = 2 ∨ i = 3 ∨ i = 4) with rfl | rfl | rfl | rfl | rfl <;> simp [go_sem, ↓IntWalk.iteOmega, c5f]), fun i hi => by simp [go_sem, ↓IntWalk.iteOmega]⟩, by (repeat (first | with_reducible exact Below.rf _ | with_reducible exact World.below_ext _ _ | with_reducible refine Below.ex ?_ _ | with_reducible refine Below.al ?_ _ | with_reducible refine Below.setCell ?_ (by simp) _ | with_reducible refine Below.drew ?_)), by simp only [Act.put, List.setIfInBounds_toArray, List.set_cons_zero, List.set_cons_succ]⟩
    · intro K' hK
      go_simp
      refine hK.out _ _ (by simp [go_sem, ↓IntWalk.iteOmega, *]) ?_
      clear hK K'
      refine wpTr_two rfl rfl rfl rfl ?_ ?_
      · intro K' hK
        go_simp
        refine hK.out _ _ (by simp [go_sem, ↓IntWalk.iteOmega, *]) ?_
        clear hK K'
        repeat (first | (refine wpTr_qf (v := ?_) rfl rfl ?_ ?_; rotate_left; focus (intro w; go_simp; (try (with_reducible rfl)); done); try simp only [List.getElem_toArray, List.getElem_cons_zero, List.getElem_cons_succ, Act.put, List.setIfInBounds_toArray, List.set_cons_zero, List.set_cons_succ]) | (refine wpTr_qt (v := ?_) rfl rfl ?_ ?_; rotate_left; focus (intro w hSw; (try dsimp only at hSw); go_simp; (try (with_reducible rfl)); done); try simp only [List.getElem_toArray, List.getElem_cons_zero, List.getElem_cons_succ, Act.put, List.setIfInBounds_toArray, List.set_cons_zero, List.set_cons_succ]))
        refine wpTr_one rfl rfl (fun K hK => ?_)
        go_simp
        refine hK.out _ _ (fun _ => by simp [go_sem, ↓IntWalk.iteOmega, *]) ?_
        clear hK K
        repeat (first | (refine wpTr_qf (v := ?_) rfl rfl ?_ ?_; rotate_left; focus (intro w; go_simp; (try (with_reducible rfl)); done); try simp only [List.getElem_toArray, List.getElem_cons_zero, List.getElem_cons_succ, Act.put, List.setIfInBounds_toArray, List.set_cons_zero, List.set_cons_succ]) | (refine wpTr_qt (v := ?_) rfl rfl ?_ ?_; rotate_left; focus (intro w hSw; (try dsimp only at hSw); go_simp; (try (with_reducible rfl)); done); try simp only [List.getElem_toArray, List.getElem_cons_zero, List.getElem_cons_succ, Act.put, List.setIfInBounds_toArray, List.set_cons_zero, List.set_cons_succ]))
        refine wpTr_one rfl rfl (fun K hK => ?_)
        go_simp
        refine hK.out _ _ (fun h => by cases h) ?_
        clear hK K
        refine wpTr_nil ?_
        refine NoPanic.normal ?_
        refine ⟨rfl, w1.heap.size + 1, w1.heap.size, w1.heap.size + 1 + 1, ⟨by omega, by omega, by omega, by omega, by omega, by omega⟩, ⟨by (simp <;> omega), fun i hi => by simp [go_sem, ↓IntWalk.iteOmega, HZ.out, hi, made1], fun i hi => by simp [go_sem, ↓IntWalk.iteOmega]⟩, ⟨by (simp <;> omega), fun i hi => by simp [go_sem, ↓IntWalk.iteOmega, HYY.out, hi, made1], fun i hi => by simp [go_sem, ↓IntWalk.iteOmega]⟩, ⟨by (simp <;> omega), fun i hi => by (rcases (by omega : i = 0 ∨ i = 1 ∨ i = 2 ∨ i = 3 ∨ i = 4) with rfl | rfl | rfl | rfl | rfl <;> simp [go_sem, ↓IntWalk.iteOmega, c5f]), fun i hi => by simp [go_sem, ↓IntWalk.iteOmega]⟩, by (repeat (first | with_reducible exact Below.rf _ | with_reducible exact World.below_ext _ _ | with_reducible refine Below.ex ?_ _ | with_reducible refine Below.al ?_ _ | with_reducible refine Below.setCell ?_ (by simp) _ | with_reducible refine Below.drew ?_)), by simp only [Act.put, List.setIfInBounds_toArray, List.set_cons_zero, List.set_cons_succ]⟩
      · intro K' hK
        go_simp
        refine hK.out _ _ (by simp [go_sem, ↓IntWalk.iteOmega, *]) ?_
        clear hK K'
        refine wpTr_one rfl rfl (fun K hK => ?_)
        go_simp
        refine hK.out _ _ (fun _ => by simp [go_sem, ↓IntWalk.iteOmega, *]) ?_
        clear hK K
        repeat (first | (refine wpTr_qf (v := ?_) rfl rfl ?_ ?_; rotate_left; focus (intro w; go_simp; (try (with_reducible rfl)); done); try simp only [List.getElem_toArray, List.getElem_cons_zero, List.getElem_cons_succ, Act.put, List.setIfInBounds_toArray, List.set_cons_zero, List.set_cons_succ]) | (refine wpTr_qt (v := ?_) rfl rfl ?_ ?_; rotate_left; focus (intro w hSw; (try dsimp only at hSw); go_simp; (try (with_reducible rfl)); done); try simp only [List.getElem_toArray, List.getElem_cons_zero, List.getElem_cons_succ, Act.put, List.setIfInBounds_toArray, List.set_cons_zero, List.set_cons_succ]))
        refine wpTr_one rfl rfl (fun K hK => ?_)
        go_simp
        refine hK.out _ _ (fun h => by cases h) ?_
        clear hK K
        refine wpTr_nil ?_
        refine NoPanic.normal ?_
        refine ⟨rfl, w1.heap.size + 1 + 1, w1.heap.size, w1.heap.size + 1, ⟨by omega, by omega, by omega, by omega, by omega, by omega⟩, ⟨by (simp <;> omega), fun i hi => by simp [go_sem, ↓IntWalk.iteOmega, HZ.out, hi, made1], fun i hi => by simp [go_sem, ↓IntWalk.iteOmega]⟩, ⟨by (simp <;> omega), fun i hi => by simp [go_sem, ↓IntWalk.iteOmega, HYY.out, hi, made1], fun i hi => by simp [go_sem, ↓IntWalk.iteOmega]⟩, ⟨by (simp <;> omega), fun i hi => by (rcases (by omega : i = 0 ∨ i = 1 ∨ i = 2 ∨ i = 3 ∨ i = 4) with rfl | rfl | rfl | rfl | rfl <;> simp [go_sem, ↓IntWalk.iteOmega, c5f]), fun i hi => by simp [go_sem, ↓IntWalk.iteOmega]⟩, by (repeat (first | with_reducible exact Below.rf _ | with_reducible exact World.below_ext _ _ | with_reducible refine Below.ex ?_ _ | with_reducible refine Below.al ?_ _ | with_reducible refine Below.setCell ?_ (by simp) _ | with_reducible refine Below.drew ?_)), by simp only [Act.put, List.setIfInBounds_toArray, List.set_cons_zero, List.set_cons_succ]⟩
    · intro K' hK
      go_simp
      refine hK.out _ _ (by simp [go_sem, ↓IntWalk.iteOmega, *]) ?_
      clear hK K'
      refine wpTr_two rfl rfl rfl rfl ?_ ?_
      · intro K' hK
        go_simp
        refine hK.out _ _ (by simp [go_sem, ↓IntWalk.iteOmega, *]) ?_
        clear hK K'
        refine wpTr_one rfl rfl (fun K hK => ?_)
        go_simp
        refine hK.out _ _ (fun _ => by simp [go_sem, ↓IntWalk.iteOmega, *]) ?_
        clear hK K
        repeat (first | (refine wpTr_qf (v := ?_) rfl rfl ?_ ?_; rotate_left; focus (intro w; go_simp; (try (with_reducible rfl)); done); try simp only [List.getElem_toArray, List.getElem_cons_zero, List.getElem_cons_succ, Act.put, List.setIfInBounds_toArray, List.set_cons_zero, List.set_cons_succ]) | (refine wpTr_qt (v := ?_) rfl rfl ?_ ?_; rotate_left; focus (intro w hSw; (try dsimp only at hSw); go_simp; (try (with_reducible rfl)); done); try simp only [List.getElem_toArray, List.getElem_cons_zero, List.getElem_cons_succ, Act.put, List.setIfInBounds_toArray, List.set_cons_zero, List.set_cons_succ]))
        refine wpTr_one rfl rfl (fun K hK => ?_)
        go_simp
        refine hK.out _ _ (fun h => by cases h) ?_
        clear hK K
        refine wpTr_nil ?_
        refine NoPanic.normal ?_
        refine ⟨rfl, w1.heap.size + 1, w1.heap.size + 1 + 1, w1.heap.size, ⟨by omega, by omega, by omega, by omega, by omega, by omega⟩, ⟨by (simp <;> omega), fun i hi => by simp [go_sem, ↓IntWalk.iteOmega, HZ.out, hi, made1], fun i hi => by simp [go_sem, ↓IntWalk.iteOmega]⟩, ⟨by (simp <;> omega), fun i hi => by simp [go_sem, ↓IntWalk.iteOmega, HYY.out, hi, made1], fun i hi => by simp [go_sem, ↓IntWalk.iteOmega]⟩, ⟨by (simp <;> omega), fun i hi => by (rcases (by omega : i = 0 ∨ i = 1 ∨ i = 2 ∨ i = 3 ∨ i = 4) with rfl | rfl | rfl | rfl | rfl <;> simp [go_sem, ↓IntWalk.iteOmega, c5f]), fun i hi => by simp [go_sem, ↓IntWalk.iteOmega]⟩, by (repeat (first | with_reducible exact Below.rf _ | with_reducible exact World.below_ext _ _ | with_reducible refine Below.ex ?_ _ | with_reducible refine Below.al ?_ _ | with_reducible refine Below.setCell ?_ (by simp) _ | with_reducible refine Below.drew ?_)), by simp only [Act.put, List.setIfInBounds_toArray, List.set_cons_zero, List.set_cons_succ]⟩
      · intro K' hK
        go_simp
        refine hK.out _ _ (by simp [go_sem, ↓IntWalk.iteOmega, *]) ?_
        clear hK K'
        refine wpTr_one rfl rfl (fun K hK => ?_)
        go_simp
        refine hK.out _ _ (fun _ => by simp [go_sem, ↓IntWalk.iteOmega, *]) ?_
        clear hK K
        repeat (first | (refine wpTr_qf (v := ?_) rfl rfl ?_ ?_; rotate_left; focus (intro w; go_simp; (try (with_reducible rfl)); done); try simp only [List.getElem_toArray, List.getElem_cons_zero, List.getElem_cons_succ, Act.put, List.setIfInBounds_toArray, List.set_cons_zero, List.set_cons_succ]) | (refine wpTr_qt (v := ?_) rfl rfl ?_ ?_; rotate_left; focus (intro w hSw; (try dsimp only at hSw); go_simp; (try (with_reducible rfl)); done); try simp only [List.getElem_toArray, List.getElem_cons_zero, List.getElem_cons_succ, Act.put, List.setIfInBounds_toArray, List.set_cons_zero, List.set_cons_succ]))
        refine wpTr_one rfl rfl (fun K hK => ?_)
        go_simp
        refine hK.out _ _ (fun h => by cases h) ?_
        clear hK K
        refine wpTr_nil ?_
        refine NoPanic.normal ?_
        refine ⟨rfl, w1.heap.size + 1 + 1, w1.heap.size + 1, w1.heap.size, ⟨by omega, by omega, by omega, by omega, by omega, by omega⟩, ⟨by (simp <;> omega), fun i hi => by simp [go_sem, ↓IntWalk.iteOmega, HZ.out, hi, made1], fun i hi => by simp [go_sem, ↓IntWalk.iteOmega]⟩, ⟨by (simp <;> omega), fun i hi => by simp [go_sem, ↓IntWalk.iteOmega, HYY.out, hi, made1], fun i hi => by simp [go_sem, ↓IntWalk.iteOmega]⟩, ⟨by (simp <;> omega), fun i hi => by (rcases (by omega : i = 0 ∨ i = 1 ∨ i = 2 ∨ i = 3 ∨ i = 4) with rfl | rfl | rfl | rfl | rfl <;> simp [go_sem, ↓IntWalk.iteOmega, c5f]), fun i hi => by simp [go_sem, ↓IntWalk.iteOmega]⟩, by (repeat (first | with_reducible exact Below.rf _ | with_reducible exact World.below_ext _ _ | with_reducible refine Below.ex ?_ _ | with_reducible refine Below.al ?_ _ | with_reducible refine Below.setCell ?_ (by simp) _ | with_reducible refine Below.drew ?_)), by simp only [Act.put, List.setIfInBounds_toArray, List.set_cons_zero, List.set_cons_succ]⟩
    --END 1
  · rintro a w3 ⟨pb, db, eb, ⟨ht1, ht2, ht3, n1, n2, n3⟩, hbp, hbd, hbe, hB3, rfl⟩
    simp only [Act.put, List.setIfInBounds_toArray, List.set_cons_zero, List.set_cons_succ]
    simp only [World.size_alloc] at ht1 ht2 ht3
    have HD : Hid (TrD w pb db eb) := ⟨by omega, by omega, by omega, n1, n2, n3⟩
    have hB0 : Below w.heap.size w w3 := (((Below.rf w).al _)).trans (hB3.mono (by simp))
    have hbr : Blk (w.alloc (Obj.cells #[.int .u8 0, .int .i64 (0), .slice none 0 0, .slice none 0 0, .int .i64 (0)] 34)) w.heap.size 5 (c5f (.int .u8 0) (.int .i64 (0)) (.slice none 0 0) (.slice none 0 0) (.int .i64 (0))) := ⟨by simp, fun i hi => by (rcases (by omega : i = 0 ∨ i = 1 ∨ i = 2 ∨ i = 3 ∨ i = 4) with rfl | rfl | rfl | rfl | rfl <;> simp [go_sem, ↓IntWalk.iteOmega, c5f]), fun i hi => by simp [go_sem, ↓IntWalk.iteOmega]⟩
    have T3 : Hid (TrS w pb db eb (o + 1) K t x w3 (fun _ => 0) (fun _ => 0)) := ⟨hbp, hbd, hbe, hbr.below hB3, hB0, fun _ => ⟨by omega, by omega⟩, fun _ => ⟨by omega, by omega⟩⟩
    obtain ⟨res, hres⟩ : ∃ y, trc S.nd t id = y := ⟨_, rfl⟩
    have HRES := hid hres
    clear hbp hbd hbe hB3 hB0 hbr hz4 hy3 hw1 r3 r4 q1 r0 c4 hres
    go_wp2
    go_loopw [9] (fun v wr => ∃ (i : Int) (k : Nat) (p d : Nat → Int), v = .int .i64 (i) ∧ -1 ≤ i ∧ i < (nn : Int) ∧ (i + 1).toNat ≤ k ∧ trcGo S.nd t k i p d = res ∧ (0 ≤ i → (S.nd.getD i.toNat Nd.nil).o < o + 1) ∧ TrS w pb db eb (o + 1) K t x wr p d) (fun v _ => (intOf v + 1).toNat)
    case atStart => exact ⟨id, id + 1, _, _, rfl, by omega, by omega, by omega, HRES.out, fun _ => by (rw [Int.toNat_natCast]; have := getD_of Nd.nil (l := S.nd) (i := id) (by rw [HNN.out]; omega); rw [HY.out] at this; simp only [Option.some.injEq] at this; rw [← this, HO.out]; omega), T3.out⟩
    case round =>
      obtain ⟨i, k, p, d, rfl, hi1, hi2, hk, heq, hio, hT⟩ := hrel
      clear T3 w3
      by_cases hi0 : 0 ≤ i
      · obtain ⟨j, rfl⟩ : ∃ j : Nat, i = j := ⟨i.toNat, by omega⟩
        have hio' := hio (by omega)
        rw [Int.toNat_natCast] at hio'
        have hjl : j < S.nd.length := by rw [HNN.out]; omega
        have hyj := getD_of Nd.nil hjl
        obtain ⟨k, rfl⟩ : ∃ k', k = k' + 1 := ⟨k - 1, by omega⟩
        rw [trcGo, if_neg (by omega), Int.toNat_natCast] at heq
        obtain ⟨hp1, hp2, hp3⟩ := HS.out.ok j _ hyj
        obtain ⟨b1, b2, b3⟩ := HN.out _ (List.mem_of_getElem? hyj)
        rw [HK.out] at b3
        obtain ⟨e0, e1, e2, e3⟩ := nrow_at S.nd j _ hyj
        have hkb := hT.k
        have q0 := (World.cell?_of_block (hkb.block nb hnl)).trans (HC.out _ _ e0)
        have q1 := (World.cell?_of_block (hkb.block nb hnl)).trans (HC.out _ _ e1)
        have q2 := (World.cell?_of_block (hkb.block nb hnl)).trans (HC.out _ _ e2)
        have q3 := (World.cell?_of_block (hkb.block nb hnl)).trans (HC.out _ _ e3)
        have hnl' : nb < wr.heap.size := Nat.lt_of_lt_of_le hnl hkb.size
        have HT4 := hid hT
        have HQ3 := hid (HC.out _ _ e3)
        generalize S.nd.getD j Nd.nil = yj at *
        clear e0 e1 e2 e3 hT hkb hio
        obtain ⟨yc, yo, yl, yp⟩ := yj
        simp only at *
        obtain ⟨wO, rfl⟩ : ∃ y, y = wr := ⟨_, rfl⟩
        by_cases hp0 : 0 ≤ yp
        · obtain ⟨yx, hyx, hox, hlx⟩ := hp3 hp0
          obtain ⟨jx, rfl⟩ : ∃ jx : Nat, yp = jx := ⟨yp.toNat, by omega⟩
          rw [Int.toNat_natCast] at hyx heq
          have hgx : S.nd.getD jx Nd.nil = yx := by rw [List.getD_eq_getElem?_getD, hyx]; rfl
          rw [if_pos hp0, hgx] at heq
          obtain ⟨c1, c2, c3⟩ := HN.out _ (List.mem_of_getElem? hyx)
          rw [HK.out] at c3
          obtain ⟨e0, e1, e2, e3⟩ := nrow_at S.nd jx _ hyx
          have hkb := HT4.out.k
          have s0 := (World.cell?_of_block (hkb.block nb hnl)).trans (HC.out _ _ e0)
          have s1 := (World.cell?_of_block (hkb.block nb hnl)).trans (HC.out _ _ e1)
          have s2 := (World.cell?_of_block (hkb.block nb hnl)).trans (HC.out _ _ e2)
          have s3 := (World.cell?_of_block (hkb.block nb hnl)).trans (HC.out _ _ e3)
          obtain ⟨xc, xo, xl, xp⟩ := yx
          simp only at *
          have HNX : Hid (0 ≤ (jx : Int) → (S.nd.getD (jx : Int).toNat Nd.nil).o < o + 1) := fun _ => by rw [Int.toNat_natCast, hgx]; simp only; omega
          clear e0 e1 e2 e3 hkb hgx hyx hyj hp3
          by_cases hll : xl < yl
          · have dl : decide ((xl : Int) < (yl : Int)) = true := by simp; omega
            rw [if_pos ⟨hp0, hll⟩] at heq
            have HE := hid heq
            clear heq
            have hxk : xl < K := by omega
            go_wp2
            refine wp_nm fun w2 hw2 => ?_
            have hb2 : Below wO.heap.size wO w2 := by rw [hw2]; (repeat (first | with_reducible exact Below.rf _ | with_reducible exact World.below_ext _ _ | with_reducible refine Below.ex ?_ _ | with_reducible refine Below.al ?_ _ | with_reducible refine Below.setCell ?_ (by simp) _ | with_reducible refine Below.drew ?_))
            have T4 := hid (HT4.out.below hb2)
            obtain ⟨bn, hbn⟩ : ∃ y, wO.heap.size = y := ⟨_, rfl⟩
            have HBD : Hid (bn ≠ db ∧ bn ≠ pb ∧ bn ≠ eb) := by
              have h1 := HT4.out.bd.lt
              have h2 := HT4.out.bp.lt
              have h3 := HT4.out.be.lt
              exact ⟨by omega, by omega, by omega⟩
            have N5 : Hid (Blk w2 bn 4 (fc (.int .i64 (yc)) (.int .i64 (yo)) (.int .i64 (yl)) (.int .i64 (jx)))) := by
              unfold Hid
              rw [hw2, ← hbn]
              refine ⟨by (simp <;> omega), fun i hi => ?_, fun i hi => by simp [go_sem, ↓IntWalk.iteOmega]⟩
              rcases (by omega : i = 0 ∨ i = 1 ∨ i = 2 ∨ i = 3) with rfl | rfl | rfl | rfl <;> simp [go_sem, ↓IntWalk.iteOmega, fc]
            rw [hbn]
            have X5 : Hid (Blk w2 (bn + 1) 4 (fc (.int .i64 (xc)) (.int .i64 (xo)) (.int .i64 (xl)) (.int .i64 (xp)))) := by
              unfold Hid
              rw [hw2, ← hbn]
              refine ⟨by (simp <;> omega), fun i hi => ?_, fun i hi => by simp [go_sem, ↓IntWalk.iteOmega]⟩
              rcases (by omega : i = 0 ∨ i = 1 ∨ i = 2 ∨ i = 3) with rfl | rfl | rfl | rfl <;> simp [go_sem, ↓IntWalk.iteOmega, fc]
            have e3 : w2.cell? ⟨eb, 3, none⟩ = some (.slice (some ⟨db, 0, none⟩) K K) := T4.out.be.is 3 (by omega)
            have x2 : w2.cell? ⟨bn + 1, 2, none⟩ = some (.int .i64 (xl)) := X5.out.is 2 (by omega)
            have n1 : w2.cell? ⟨bn, 1, none⟩ = some (.int .i64 (yo)) := N5.out.is 1 (by omega)
            have r3 : w2.cell? ⟨rb, 3, none⟩ = some (.int .i64 (t)) := (World.cell?_of_block (T4.out.k.block rb hrl)).trans HR3.out
            have dd : w2.cell? ⟨db, xl, none⟩ = some (.int .i64 (d xl)) := T4.out.bd.is xl hxk
            have zd := T4.out.bd.fz xl hxk
            have l1 := T4.out.be.lt
            have l2 := T4.out.bd.lt
            have l3 := X5.out.lt
            have l4 := N5.out.lt
            have l5 : rb < w2.heap.size := Nat.lt_of_lt_of_le hrl T4.out.k.size
            clear hw2 hb2 q0 q1 q2 q3 s0 s1 s2 s3 hnl' hbn
            first | with_reducible refine wp_region_tail_ext2 12 (by kernel_rfl) (by kernel_rfl) ?_ | refine wp_region_tail_ext 12 (by kernel_rfl) (by kernel_rfl) ?_
            simp only [List.take_succ_cons, List.take_zero, List.drop_succ_cons, List.drop_zero]
            repeat (go_big_quiet_step (fail))
            refine wpQuiet_nil ?_
            rintro _ ⟨z, rfl⟩
            go_wp2
            refine wp_nm fun w6 hw6 => ?_
            have hbz := World.below_ext w2 z
            have T5 : Hid (TrS w pb db eb (o + 1) K t x w6 p (upd d xl (t + (yo : Int)))) := by
              unfold Hid
              rw [hw6]
              exact (T4.out.setD HD.out xl _ hxk ⟨by omega, by omega⟩).below (World.below_ext _ _)
            have N6 : Hid (Blk w6 bn 4 (fc (.int .i64 (yc)) (.int .i64 (yo)) (.int .i64 (yl)) (.int .i64 (jx)))) := by
              unfold Hid
              rw [hw6]
              exact (N5.out.kept ((KeptBut.refl db w2).set (Or.inl rfl) _) HBD.out.1).below (World.below_ext _ _)
            clear N5
            have N5 := N6
            clear N6 hw6 hbz e3 x2 n1 r3 dd zd l1 l2 l3 l4 l5 X5 T4
            go_loopw [13] (fun v wr => ∃ jj : Nat, v = .int .i64 (jj) ∧ xo + 1 ≤ jj ∧ jj ≤ yo + 1 ∧ TrS w pb db eb (o + 1) K t x wr (filP p (xo + 1) jj yc) (upd d xl (t + (yo : Int))) ∧ Blk wr bn 4 (fc (.int .i64 (yc)) (.int .i64 (yo)) (.int .i64 (yl)) (.int .i64 (jx)))) (fun v _ => yo + 1 - (intOf v).toNat)
            case atStart => exact ⟨xo + 1, by first | rfl | simp, by omega, by omega, T5.out.congr (fun i => filP_at _ _ _ _) (fun _ => rfl), N5.out⟩
            case round =>
              obtain ⟨jj, rfl, hj1, hj2, hTi, hNi⟩ := hrel
              have HTI := hid hTi
              have HNI := hid hNi
              have n0 : wr.cell? ⟨bn, 0, none⟩ = some (.int .i64 (yc)) := hNi.is 0 (by omega)
              have n1 : wr.cell? ⟨bn, 1, none⟩ = some (.int .i64 (yo)) := hNi.is 1 (by omega)
              have l1 := hNi.lt
              clear T5 N5
              by_cases hle : jj ≤ yo
              · have dle : decide ((jj : Int) ≤ (yo : Int)) = true := by simp; omega
                have e2 : wr.cell? ⟨eb, 2, none⟩ = some (.slice (some ⟨pb, 0, none⟩) (o + 1) (o + 1)) := hTi.be.is 2 (by omega)
                have pc := hTi.bp.is jj (by omega)
                have pz := hTi.bp.fz jj (by omega)
                have l2 := hTi.be.lt
                have l3 := hTi.bp.lt
                clear hTi hNi
                go_wp2
                go_roundw
                case rel =>
                  refine ⟨jj + 1, by go_num, by omega, by omega, (HTI.out.setP HD.out jj yc (by omega) ⟨by omega, by omega⟩).congr (fun i => filP_up _ _ _ _ (by omega) i) (fun _ => rfl), HNI.out.kept ((KeptBut.refl pb wr).set (Or.inl rfl) _) HBD.out.2.1⟩
                case measure => simp [intOf]; omega
              · have dle : decide ((jj : Int) ≤ (yo : Int)) = false := by simp; omega
                have hkb := hTi.k
                obtain rfl : jj = yo + 1 := by omega
                have q3 : wr.cell? ⟨nb, j * 4 + 3, none⟩ = some (.int .i64 (jx)) := (World.cell?_of_block (hkb.block nb hnl)).trans HQ3.out
                have l2 : nb < wr.heap.size := Nat.lt_of_lt_of_le hnl hkb.size
                clear hTi hNi hkb
                go_wp2
                go_roundw
                case rel => exact ⟨jx, k, _, _, rfl, by omega, by omega, by omega, HE.out, HNX.out, HTI.out⟩
                case measure => (simp [intOf] <;> omega)
          · have dl : decide ((xl : Int) < (yl : Int)) = false := by simp; omega
            rw [if_neg (fun h => hll h.2)] at heq
            have HE := hid heq
            clear heq
            go_wp2
            refine wp_nm fun w2 hw2 => ?_
            have hb2 : Below wO.heap.size wO w2 := by rw [hw2]; (repeat (first | with_reducible exact Below.rf _ | with_reducible exact World.below_ext _ _ | with_reducible refine Below.ex ?_ _ | with_reducible refine Below.al ?_ _ | with_reducible refine Below.setCell ?_ (by simp) _ | with_reducible refine Below.drew ?_))
            have T5 := hid (HT4.out.below hb2)
            obtain ⟨bn, hbn⟩ : ∃ y, wO.heap.size = y := ⟨_, rfl⟩
            have HBD : Hid (bn ≠ db ∧ bn ≠ pb ∧ bn ≠ eb) := by
              have h1 := HT4.out.bd.lt
              have h2 := HT4.out.bp.lt
              have h3 := HT4.out.be.lt
              exact ⟨by omega, by omega, by omega⟩
            have N5 : Hid (Blk w2 bn 4 (fc (.int .i64 (yc)) (.int .i64 (yo)) (.int .i64 (yl)) (.int .i64 (jx)))) := by
              unfold Hid
              rw [hw2, ← hbn]
              refine ⟨by (simp <;> omega), fun i hi => ?_, fun i hi => by simp [go_sem, ↓IntWalk.iteOmega]⟩
              rcases (by omega : i = 0 ∨ i = 1 ∨ i = 2 ∨ i = 3) with rfl | rfl | rfl | rfl <;> simp [go_sem, ↓IntWalk.iteOmega, fc]
            rw [hbn]
            clear hw2 hb2 q0 q1 q2 q3 s0 s1 s2 s3 hnl'
            go_loopw [13] (fun v wr => ∃ jj : Nat, v = .int .i64 (jj) ∧ xo + 1 ≤ jj ∧ jj ≤ yo + 1 ∧ TrS w pb db eb (o + 1) K t x wr (filP p (xo + 1) jj yc) (d) ∧ Blk wr bn 4 (fc (.int .i64 (yc)) (.int .i64 (yo)) (.int .i64 (yl)) (.int .i64 (jx)))) (fun v _ => yo + 1 - (intOf v).toNat)
            case atStart => exact ⟨xo + 1, by first | rfl | simp, by omega, by omega, T5.out.congr (fun i => filP_at _ _ _ _) (fun _ => rfl), N5.out⟩
            case round =>
              obtain ⟨jj, rfl, hj1, hj2, hTi, hNi⟩ := hrel
              have HTI := hid hTi
              have HNI := hid hNi
              have n0 : wr.cell? ⟨bn, 0, none⟩ = some (.int .i64 (yc)) := hNi.is 0 (by omega)
              have n1 : wr.cell? ⟨bn, 1, none⟩ = some (.int .i64 (yo)) := hNi.is 1 (by omega)
              have l1 := hNi.lt
              clear T5 N5
              by_cases hle : jj ≤ yo
              · have dle : decide ((jj : Int) ≤ (yo : Int)) = true := by simp; omega
                have e2 : wr.cell? ⟨eb, 2, none⟩ = some (.slice (some ⟨pb, 0, none⟩) (o + 1) (o + 1)) := hTi.be.is 2 (by omega)
                have pc := hTi.bp.is jj (by omega)
                have pz := hTi.bp.fz jj (by omega)
                have l2 := hTi.be.lt
                have l3 := hTi.bp.lt
                clear hTi hNi
                go_wp2
                go_roundw
                case rel =>
                  refine ⟨jj + 1, by go_num, by omega, by omega, (HTI.out.setP HD.out jj yc (by omega) ⟨by omega, by omega⟩).congr (fun i => filP_up _ _ _ _ (by omega) i) (fun _ => rfl), HNI.out.kept ((KeptBut.refl pb wr).set (Or.inl rfl) _) HBD.out.2.1⟩
                case measure => simp [intOf]; omega
              · have dle : decide ((jj : Int) ≤ (yo : Int)) = false := by simp; omega
                have hkb := hTi.k
                obtain rfl : jj = yo + 1 := by omega
                have q3 : wr.cell? ⟨nb, j * 4 + 3, none⟩ = some (.int .i64 (jx)) := (World.cell?_of_block (hkb.block nb hnl)).trans HQ3.out
                have l2 : nb < wr.heap.size := Nat.lt_of_lt_of_le hnl hkb.size
                clear hTi hNi hkb
                go_wp2
                go_roundw
                case rel => exact ⟨jx, k, _, _, rfl, by omega, by omega, by omega, HE.out, HNX.out, HTI.out⟩
                case measure => (simp [intOf] <;> omega)
        · obtain rfl : yp = -1 := by omega
          rw [if_neg (by omega), if_neg (fun h => hp0 h.1)] at heq
          have HNX : Hid (0 ≤ (-1 : Int) → (S.nd.getD (-1 : Int).toNat Nd.nil).o < o + 1) := fun h => by omega
          have HE := hid heq
          clear heq
          go_wp2
          refine wp_nm fun w2 hw2 => ?_
          have hb2 : Below wO.heap.size wO w2 := by rw [hw2]; (repeat (first | with_reducible exact Below.rf _ | with_reducible exact World.below_ext _ _ | with_reducible refine Below.ex ?_ _ | with_reducible refine Below.al ?_ _ | with_reducible refine Below.setCell ?_ (by simp) _ | with_reducible refine Below.drew ?_))
          have T5 := hid (HT4.out.below hb2)
          obtain ⟨bn, hbn⟩ : ∃ y, wO.heap.size = y := ⟨_, rfl⟩
          have HBD : Hid (bn ≠ db ∧ bn ≠ pb ∧ bn ≠ eb) := by
            have h1 := HT4.out.bd.lt
            have h2 := HT4.out.bp.lt
            have h3 := HT4.out.be.lt
            exact ⟨by omega, by omega, by omega⟩
          have N5 : Hid (Blk w2 bn 4 (fc (.int .i64 (yc)) (.int .i64 (yo)) (.int .i64 (yl)) (.int .i64 (-1)))) := by
            unfold Hid
            rw [hw2, ← hbn]
            refine ⟨by (simp <;> omega), fun i hi => ?_, fun i hi => by simp [go_sem, ↓IntWalk.iteOmega]⟩
            rcases (by omega : i = 0 ∨ i = 1 ∨ i = 2 ∨ i = 3) with rfl | rfl | rfl | rfl <;> simp [go_sem, ↓IntWalk.iteOmega, fc]
          rw [hbn]
          clear hw2 hb2 q0 q1 q2 q3 hnl'
          go_loopw [13] (fun v wr => ∃ jj : Nat, v = .int .i64 (jj) ∧ 0 ≤ jj ∧ jj ≤ yo + 1 ∧ TrS w pb db eb (o + 1) K t x wr (filP p (0) jj yc) (d) ∧ Blk wr bn 4 (fc (.int .i64 (yc)) (.int .i64 (yo)) (.int .i64 (yl)) (.int .i64 (-1)))) (fun v _ => yo + 1 - (intOf v).toNat)
          case atStart => exact ⟨0, by first | rfl | simp, by omega, by omega, T5.out.congr (fun i => filP_at _ _ _ _) (fun _ => rfl), N5.out⟩
          case round =>
            obtain ⟨jj, rfl, hj1, hj2, hTi, hNi⟩ := hrel
            have HTI := hid hTi
            have HNI := hid hNi
            have n0 : wr.cell? ⟨bn, 0, none⟩ = some (.int .i64 (yc)) := hNi.is 0 (by omega)
            have n1 : wr.cell? ⟨bn, 1, none⟩ = some (.int .i64 (yo)) := hNi.is 1 (by omega)
            have l1 := hNi.lt
            clear T5 N5
            by_cases hle : jj ≤ yo
            · have dle : decide ((jj : Int) ≤ (yo : Int)) = true := by simp; omega
              have e2 : wr.cell? ⟨eb, 2, none⟩ = some (.slice (some ⟨pb, 0, none⟩) (o + 1) (o + 1)) := hTi.be.is 2 (by omega)
              have pc := hTi.bp.is jj (by omega)
              have pz := hTi.bp.fz jj (by omega)
              have l2 := hTi.be.lt
              have l3 := hTi.bp.lt
              clear hTi hNi
              go_wp2
              go_roundw
              case rel =>
                refine ⟨jj + 1, by go_num, by omega, by omega, (HTI.out.setP HD.out jj yc (by omega) ⟨by omega, by omega⟩).congr (fun i => filP_up _ _ _ _ (by omega) i) (fun _ => rfl), HNI.out.kept ((KeptBut.refl pb wr).set (Or.inl rfl) _) HBD.out.2.1⟩
              case measure => simp [intOf]; omega
            · have dle : decide ((jj : Int) ≤ (yo : Int)) = false := by simp; omega
              have hkb := hTi.k
              obtain rfl : jj = yo + 1 := by omega
              have q3 : wr.cell? ⟨nb, j * 4 + 3, none⟩ = some (.int .i64 (-1)) := (World.cell?_of_block (hkb.block nb hnl)).trans HQ3.out
              have l2 : nb < wr.heap.size := Nat.lt_of_lt_of_le hnl hkb.size
              clear hTi hNi hkb
              go_wp2
              go_roundw
              case rel => exact ⟨-1, k, _, _, rfl, by omega, by omega, by omega, HE.out, HNX.out, HTI.out⟩
              case measure => (simp [intOf] <;> omega)
      · have HE : Hid ((p, d) = res) := by
          cases k with
          | zero => exact heq
          | succ k => rw [trcGo, if_pos (by omega)] at heq; exact heq
        have HTI := hid hT
        have e0 : wr.cell? ⟨eb, 0, none⟩ = some (.int .u8 0) := hT.be.is 0 (by omega)
        have e1 : wr.cell? ⟨eb, 1, none⟩ = some (.int .i64 (t)) := hT.be.is 1 (by omega)
        have e2 : wr.cell? ⟨eb, 2, none⟩ = some (.slice (some ⟨pb, 0, none⟩) (o + 1) (o + 1)) := hT.be.is 2 (by omega)
        have e3 : wr.cell? ⟨eb, 3, none⟩ = some (.slice (some ⟨db, 0, none⟩) K K) := hT.be.is 3 (by omega)
        have e4 : wr.cell? ⟨eb, 4, none⟩ = some (.int .i64 (x)) := hT.be.is 4 (by omega)
        have r0 : wr.cell? ⟨w.heap.size, 0, none⟩ = some (.int .u8 0) := hT.br.is 0 (by omega)
        have r1 : wr.cell? ⟨w.heap.size, 1, none⟩ = some (.int .i64 (0)) := hT.br.is 1 (by omega)
        have r2 : wr.cell? ⟨w.heap.size, 2, none⟩ = some (.slice none 0 0) := hT.br.is 2 (by omega)
        have r3 : wr.cell? ⟨w.heap.size, 3, none⟩ = some (.slice none 0 0) := hT.br.is 3 (by omega)
        have r4 : wr.cell? ⟨w.heap.size, 4, none⟩ = some (.int .i64 (0)) := hT.br.is 4 (by omega)
        have z0 := hT.br.fz 0 (by omega)
        have z1 := hT.br.fz 1 (by omega)
        have z2 := hT.br.fz 2 (by omega)
        have z3 := hT.br.fz 3 (by omega)
        have z4 := hT.br.fz 4 (by omega)
        have l1 := hT.be.lt
        have l2 := hT.br.lt
        have di : decide ((0 : Int) ≤ i) = false := by simp; omega
        clear hT heq hio hk
        go_wp2
        refine bodyPost_ret (v := .agg #[.int .u8 (0), .int .i64 (t), .slice (some ⟨pb, 0, none⟩) (o + 1) (o + 1), .slice (some ⟨db, 0, none⟩) K K, .int .i64 (x)]) (by simp [results, Try.results89, go_sem, ↓IntWalk.iteOmega, r0, r1, r2, r3, r4]) rfl ?_
        rw [← HPO.out]
        have hk5 : KeptBut w.heap.size wr (((((wr.setCell ⟨w.heap.size, 0, none⟩ (.int .u8 0)).setCell ⟨w.heap.size, 1, none⟩ (.int .i64 (t))).setCell ⟨w.heap.size, 2, none⟩ (.slice (some ⟨pb, 0, none⟩) (o + 1) (o + 1))).setCell ⟨w.heap.size, 3, none⟩ (.slice (some ⟨db, 0, none⟩) K K)).setCell ⟨w.heap.size, 4, none⟩ (.int .i64 (x))) := by
          refine KeptBut.set ?_ (Or.inl (by rfl)) _
          refine KeptBut.set ?_ (Or.inl (by rfl)) _
          refine KeptBut.set ?_ (Or.inl (by rfl)) _
          refine KeptBut.set ?_ (Or.inl (by rfl)) _
          refine KeptBut.set ?_ (Or.inl (by rfl)) _
          exact KeptBut.refl _ _
        obtain ⟨d1, d2, d3, d4, d5, d6⟩ := HD.out
        have hyy : S.nd.getD id Nd.nil = y := by rw [List.getD_eq_getElem?_getD, HY.out]; rfl
        have hrs : trc S.nd q.t id = (p, d) := by rw [HT.out, HRES.out, HE.out]
        refine ⟨_, rfl, ?_, fun lab hlab => ⟨.slice (some ⟨pb, 0, none⟩) (o + 1) (o + 1), .slice (some ⟨db, 0, none⟩) K K, ?_, ?_, ?_, fun h => absurd rfl h⟩⟩
        · refine Below.setCell ?_ (by simp) _
          refine Below.setCell ?_ (by simp) _
          refine Below.setCell ?_ (by simp) _
          refine Below.setCell ?_ (by simp) _
          refine Below.setCell ?_ (by simp) _
          exact HTI.out.k
        · unfold Pl.trace
          simp only [HT.out]
          rfl
        · unfold Pl.trace
          simp only
          rw [hyy, HO.out, hrs]
          exact ints_of_blk (HTI.out.bp.kept hk5 (by omega)) (hlab pb (by omega)) HTI.out.ip (by omega)
        · unfold Pl.trace
          simp only
          rw [hrs, HK.out]
          exact ints_of_blk (HTI.out.bd.kept hk5 (by omega)) (hlab db (by omega)) HTI.out.id (by omega)
end Go.Proofs.Qxb6500716a
