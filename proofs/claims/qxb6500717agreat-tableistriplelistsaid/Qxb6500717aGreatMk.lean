/-
  The marks in memory, exactly; their operations.
-/
import Derived.Test.Qxb6500717aGreatHp2
import Derived.Test.Qxb6500717aGreatTr
import Derived.Lib.SliceRun
namespace Go.Proofs.Qxb6500717aGreat
open Go.RowKit
set_option linter.unusedSimpArgs false
set_option linter.unusedVariables false

structure MkS where
  n : Nat
  rd : Int
  st : Nat → Int
  vl : Nat → Int
  cn : Nat
structure MkM where
  m : Nat
  s : Nat
  v : Nat
def mcell (M : MkM) (S : MkS) : Nat → Value
  | 0 => .int .u8 S.rd
  | 1 => .slice (some ⟨M.s, 0, none⟩) S.n S.n
  | 2 => .slice (some ⟨M.v, 0, none⟩) S.n S.n
  | _ => .int .i64 (S.cn)
structure MkAt (w : World) (lab : Nat → Nat) (M : MkM) (S : MkS) : Prop where
  n : S.n ≤ 4096
  rd : 0 ≤ S.rd ∧ S.rd ≤ 255
  st : ∀ i, i < S.n → 0 ≤ S.st i ∧ S.st i ≤ 255
  bm : Blk w M.m 4 (mcell M S)
  bs : Blk w M.s S.n (fun i => .int .u8 (S.st i))
  bv : Blk w M.v S.n (fun i => .int .i64 (S.vl i))
  lm : lab M.m = 3
  ls : lab M.s = 4
  lv : lab M.v = 5
section
variable {w w' : World} {lab lab' : Nat → Nat} {M : MkM} {S : MkS}
theorem MkAt.of (h : MkAt w lab M S) (hs : w.heap.size ≤ w'.heap.size) (hl : ∀ j, j < w.heap.size → lab' j = lab j) (hb : ∀ j, j < w.heap.size → lab j = 3 ∨ lab j = 4 ∨ lab j = 5 → w'.heap[j]? = w.heap[j]?) : MkAt w' lab' M S :=
  { h with bm := h.bm.of_block hs (hb _ h.bm.lt (Or.inl h.lm)), bs := h.bs.of_block hs (hb _ h.bs.lt (Or.inr (Or.inl h.ls))), bv := h.bv.of_block hs (hb _ h.bv.lt (Or.inr (Or.inr h.lv)))
           lm := (hl _ h.bm.lt).trans h.lm, ls := (hl _ h.bs.lt).trans h.ls, lv := (hl _ h.bv.lt).trans h.lv }
theorem MkAt.below (h : MkAt w lab M S) (hb : Below w.heap.size w w') : MkAt w' lab M S := h.of hb.size (fun _ _ => rfl) (fun j hj _ => hb.block j hj)
theorem MkAt.keptL {A : Nat → Prop} (h : MkAt w lab M S) (hk : KeptL lab A w w') (h1 : ¬ A 3) (h2 : ¬ A 4) (h3 : ¬ A 5) : MkAt w' lab M S :=
  h.of hk.size (fun _ _ => rfl) (fun j hj hl => hk.block j hj (by rcases hl with hl | hl | hl <;> rw [hl] <;> assumption))
end

/-- New marks. -/
def MkS.new (n : Nat) : MkS := ⟨n, 1, fun _ => 0, fun _ => 0, 0⟩
def mkPost (lab : Nat → Nat) (S : MkS) (w : World) (e : Ending) (w' : World) : Prop :=
  ∃ (M : MkM) (lab' : Nat → Nat), e = .returned (.pointer (some ⟨M.m, 0, none⟩)) ∧ MkAt w' lab' M S ∧ (∀ j, j < w.heap.size → lab' j = lab j) ∧ Below w.heap.size w w'

theorem made1 (z : Value) (n i : Nat) (h : i < n) : (madeCells #[z] n)[i]? = some z := by
  simp [madeCells, h, Nat.mod_one]

theorem newMarks_end (n : Nat) (hn : n ≤ 4096) (lab : Nat → Nat) (w : World) (s v m : Nat) (w' : World) (h1 : w.heap.size ≤ s) (h2 : w.heap.size ≤ v) (h3 : w.heap.size ≤ m) (n1 : s ≠ v) (n2 : s ≠ m) (n3 : v ≠ m) (hB : Below w.heap.size w w') (hlt : s < w'.heap.size ∧ v < w'.heap.size ∧ m < w'.heap.size)
    (c1 : ∀ i, i < n → w'.cell? ⟨s, i, none⟩ = some (.int .u8 0)) (f1 : ∀ i, i < n → w'.frozen? ⟨s, i, none⟩ = false) (c2 : ∀ i, i < n → w'.cell? ⟨v, i, none⟩ = some (.int .i64 (0))) (f2 : ∀ i, i < n → w'.frozen? ⟨v, i, none⟩ = false)
    (c3 : ∀ i, i < 4 → w'.cell? ⟨m, i, none⟩ = some (mcell ⟨m, s, v⟩ (MkS.new n) i)) (f3 : ∀ i, i < 4 → w'.frozen? ⟨m, i, none⟩ = false) : mkPost lab (MkS.new n) w (.returned (.pointer (some ⟨m, 0, none⟩))) w' :=
  ⟨⟨m, s, v⟩, fun j => if j = m then 3 else if j = s then 4 else if j = v then 5 else lab j, rfl,
    ⟨hn, by simp [MkS.new], fun _ _ => by simp [MkS.new], ⟨hlt.2.2, c3, f3⟩, ⟨hlt.1, c1, f1⟩, ⟨hlt.2.1, c2, f2⟩, if_pos rfl, by simp [n2], by simp [n3, Ne.symm n1]⟩,
    fun j hj => by simp only; rw [if_neg (by omega), if_neg (by omega), if_neg (by omega)], hB⟩

set_option maxRecDepth 20000 in
set_option maxHeartbeats 4000000 in
theorem newMarks_any (n : Nat) (hn : n ≤ 4096) (lab : Nat → Nat) (w : World) : Calls Tryz.prog 12 #[.int .i64 (n)] w (mkPost lab (MkS.new n) w) := by
  obtain ⟨Zs, hs1, hs2, hs3⟩ := make_is (P := Tryz.prog) 90 5 (.int .u8 0) 1 1 Tryz.underlying90 (by kernel_rfl) n (by omega) (by omega)
  obtain ⟨Zv, hv1, hv2, hv3⟩ := make_is (P := Tryz.prog) 34 3 (.int .i64 0) 1 8 Tryz.underlying34 (by kernel_rfl) n (by omega) (by omega)
  have HS2 := hid hs2
  have HV2 := hid hv2
  clear hs2 hv2
  go_enter Tryz.func12, Tryz.ntmps12
  go_wp2
  refine wp_region_tree 5 (fun _ => True) (.q 0 false (.q 2 false (.two 1 3 (.one 3 true (.q 4 false (.one 5 false (.one 6 false .nil)))) (.one 1 true (.q 4 false (.one 5 false (.one 6 false .nil))))))) (by kernel_rfl) (by kernel_rfl) (by kernel_rfl) trivial ?_
  repeat (first | (refine wpTr_qf (v := ?_) rfl rfl ?_ ?_; rotate_left; focus (intro w; go_simp; (try (with_reducible rfl)); done); try simp only [List.getElem_toArray, List.getElem_cons_zero, List.getElem_cons_succ, Act.put, List.setIfInBounds_toArray, List.set_cons_zero, List.set_cons_succ]) | (refine wpTr_qt (v := ?_) rfl rfl ?_ ?_; rotate_left; focus (intro w hSw; (try dsimp only at hSw); go_simp; (try (with_reducible rfl)); done); try simp only [List.getElem_toArray, List.getElem_cons_zero, List.getElem_cons_succ, Act.put, List.setIfInBounds_toArray, List.set_cons_zero, List.set_cons_succ]))
  refine wpTr_two rfl rfl rfl rfl (fun K hK => ?_) (fun K hK => ?_)
  · go_simp
    refine hK.out _ _ trivial ?_
    clear hK K
    refine wpTr_one rfl rfl (fun K hK => ?_)
    go_simp
    refine hK.out _ _ (fun _ => trivial) ?_
    clear hK K
    repeat (first | (refine wpTr_qf (v := ?_) rfl rfl ?_ ?_; rotate_left; focus (intro w; go_simp; (try (with_reducible rfl)); done); try simp only [List.getElem_toArray, List.getElem_cons_zero, List.getElem_cons_succ, Act.put, List.setIfInBounds_toArray, List.set_cons_zero, List.set_cons_succ]) | (refine wpTr_qt (v := ?_) rfl rfl ?_ ?_; rotate_left; focus (intro w hSw; (try dsimp only at hSw); go_simp; (try (with_reducible rfl)); done); try simp only [List.getElem_toArray, List.getElem_cons_zero, List.getElem_cons_succ, Act.put, List.setIfInBounds_toArray, List.set_cons_zero, List.set_cons_succ]))
    refine wpTr_one rfl rfl (fun K hK => ?_)
    go_simp
    refine hK.out _ _ (fun h => by cases h) ?_
    clear hK K
    refine wpTr_one rfl rfl (fun K hK => ?_)
    go_simp
    refine hK.out _ _ (fun h => by cases h) ?_
    clear hK K
    refine wpTr_nil ?_
    refine NoPanic.normal ?_
    go_wp2
    refine bodyPost_ret (v := .pointer (some ⟨w.heap.size + 1 + 1, 0, none⟩)) (by simp [results, Tryz.results12, go_sem, ↓IntWalk.iteOmega]) rfl ?_
    exact newMarks_end n hn lab w w.heap.size (w.heap.size + 1) (w.heap.size + 1 + 1) _ (by omega) (by omega) (by omega) (by omega) (by omega) (by omega) (by (repeat (first | with_reducible exact Below.rf _ | with_reducible exact World.below_ext _ _ | with_reducible refine Below.ex ?_ _ | with_reducible refine Below.al ?_ _ | with_reducible refine Below.setCell ?_ (by simp) _ | with_reducible refine Below.drew ?_))) (by simp; omega) (fun i hi => by simp [go_sem, ↓IntWalk.iteOmega, HS2.out, hi, made1]) (fun i hi => by simp [go_sem, ↓IntWalk.iteOmega]) (fun i hi => by simp [go_sem, ↓IntWalk.iteOmega, HV2.out, hi, made1]) (fun i hi => by simp [go_sem, ↓IntWalk.iteOmega]) (fun i hi => by
      rcases (by omega : i = 0 ∨ i = 1 ∨ i = 2 ∨ i = 3) with rfl | rfl | rfl | rfl <;> simp [go_sem, ↓IntWalk.iteOmega, mcell, MkS.new]) (fun i hi => by simp [go_sem, ↓IntWalk.iteOmega])
  · go_simp
    refine hK.out _ _ trivial ?_
    clear hK K
    refine wpTr_one rfl rfl (fun K hK => ?_)
    go_simp
    refine hK.out _ _ (fun _ => trivial) ?_
    clear hK K
    repeat (first | (refine wpTr_qf (v := ?_) rfl rfl ?_ ?_; rotate_left; focus (intro w; go_simp; (try (with_reducible rfl)); done); try simp only [List.getElem_toArray, List.getElem_cons_zero, List.getElem_cons_succ, Act.put, List.setIfInBounds_toArray, List.set_cons_zero, List.set_cons_succ]) | (refine wpTr_qt (v := ?_) rfl rfl ?_ ?_; rotate_left; focus (intro w hSw; (try dsimp only at hSw); go_simp; (try (with_reducible rfl)); done); try simp only [List.getElem_toArray, List.getElem_cons_zero, List.getElem_cons_succ, Act.put, List.setIfInBounds_toArray, List.set_cons_zero, List.set_cons_succ]))
    refine wpTr_one rfl rfl (fun K hK => ?_)
    go_simp
    refine hK.out _ _ (fun h => by cases h) ?_
    clear hK K
    refine wpTr_one rfl rfl (fun K hK => ?_)
    go_simp
    refine hK.out _ _ (fun h => by cases h) ?_
    clear hK K
    refine wpTr_nil ?_
    refine NoPanic.normal ?_
    go_wp2
    refine bodyPost_ret (v := .pointer (some ⟨w.heap.size + 1 + 1, 0, none⟩)) (by simp [results, Tryz.results12, go_sem, ↓IntWalk.iteOmega]) rfl ?_
    exact newMarks_end n hn lab w (w.heap.size + 1) w.heap.size (w.heap.size + 1 + 1) _ (by omega) (by omega) (by omega) (by omega) (by omega) (by omega) (by (repeat (first | with_reducible exact Below.rf _ | with_reducible exact World.below_ext _ _ | with_reducible refine Below.ex ?_ _ | with_reducible refine Below.al ?_ _ | with_reducible refine Below.setCell ?_ (by simp) _ | with_reducible refine Below.drew ?_))) (by simp; omega) (fun i hi => by simp [go_sem, ↓IntWalk.iteOmega, HS2.out, hi, made1]) (fun i hi => by simp [go_sem, ↓IntWalk.iteOmega]) (fun i hi => by simp [go_sem, ↓IntWalk.iteOmega, HV2.out, hi, made1]) (fun i hi => by simp [go_sem, ↓IntWalk.iteOmega]) (fun i hi => by
      rcases (by omega : i = 0 ∨ i = 1 ∨ i = 2 ∨ i = 3) with rfl | rfl | rfl | rfl <;> simp [go_sem, ↓IntWalk.iteOmega, mcell, MkS.new]) (fun i hi => by simp [go_sem, ↓IntWalk.iteOmega])

/-! what is done to them -/
def markL (x : Nat) : Prop := x = 3 ∨ x = 4 ∨ x = 5
def MkS.has (S : MkS) (i : Int) : Bool := decide (0 ≤ i ∧ i < S.n ∧ S.st i.toNat = S.rd)
def MkS.set (S : MkS) (i : Nat) (v : Int) : MkS :=
  if S.st i = S.rd then { S with vl := upd S.vl i v } else { S with st := upd S.st i S.rd, cn := S.cn + 1, vl := upd S.vl i v }
def MkS.clr (S : MkS) : MkS := if S.rd = 255 then { S with rd := 1, st := fun _ => 0, cn := 0 } else { S with rd := S.rd + 1, cn := 0 }
section
variable {w : World} {lab : Nat → Nat} {M : MkM} {S : MkS}
theorem MkAt.c0 (h : MkAt w lab M S) : w.cell? ⟨M.m, 0, none⟩ = some (.int .u8 S.rd) := h.bm.is 0 (by omega)
theorem MkAt.c1 (h : MkAt w lab M S) : w.cell? ⟨M.m, 1, none⟩ = some (.slice (some ⟨M.s, 0, none⟩) S.n S.n) := h.bm.is 1 (by omega)
theorem MkAt.c2 (h : MkAt w lab M S) : w.cell? ⟨M.m, 2, none⟩ = some (.slice (some ⟨M.v, 0, none⟩) S.n S.n) := h.bm.is 2 (by omega)
theorem MkAt.c3 (h : MkAt w lab M S) : w.cell? ⟨M.m, 3, none⟩ = some (.int .i64 (S.cn)) := h.bm.is 3 (by omega)
theorem MkAt.setV (h : MkAt w lab M S) {i : Nat} (hi : i < S.n) (v : Int) : MkAt (w.setCell ⟨M.v, i, none⟩ (.int .i64 (v))) lab M { S with vl := upd S.vl i v } := by
  have hk : KeptL lab (fun x => x = 5) w (w.setCell ⟨M.v, i, none⟩ (.int .i64 (v))) := (KeptL.refl lab _ w).set h.lv _
  refine { h with bm := (h.bm.keptL hk (by rw [h.lm]; omega)).congr (fun j hj => rfl), bs := h.bs.keptL hk (by rw [h.ls]; omega), bv := (h.bv.set i _ hi).congr (fun j hj => ?_) }
  show upd _ i _ j = Value.int .i64 (upd S.vl i v j)
  unfold upd
  split <;> rfl
theorem MkAt.setS (h : MkAt w lab M S) {i : Nat} (hi : i < S.n) (v : Int) (hv : 0 ≤ v ∧ v ≤ 255) : MkAt (w.setCell ⟨M.s, i, none⟩ (.int .u8 v)) lab M { S with st := upd S.st i v } := by
  have hk : KeptL lab (fun x => x = 4) w (w.setCell ⟨M.s, i, none⟩ (.int .u8 v)) := (KeptL.refl lab _ w).set h.ls _
  refine { h with st := fun j hj => ?_, bm := (h.bm.keptL hk (by rw [h.lm]; omega)).congr (fun j hj => rfl), bv := h.bv.keptL hk (by rw [h.lv]; omega), bs := (h.bs.set i _ hi).congr (fun j hj => ?_) }
  · show 0 ≤ upd S.st i v j ∧ upd S.st i v j ≤ 255
    unfold upd
    split
    · exact hv
    · exact h.st j hj
  · show upd _ i _ j = Value.int .u8 (upd S.st i v j)
    unfold upd
    split <;> rfl
theorem MkAt.setC (h : MkAt w lab M S) (n : Nat) {x : Int} (hx : x = n) : MkAt (w.setCell ⟨M.m, 3, none⟩ (.int .i64 (x))) lab M { S with cn := n } := by
  subst hx
  have hk : KeptL lab (fun x => x = 3) w (w.setCell ⟨M.m, 3, none⟩ (.int .i64 (n))) := (KeptL.refl lab _ w).set h.lm _
  refine { h with bm := (h.bm.set 3 _ (by omega)).congr (fun j hj => ?_), bs := h.bs.keptL hk (by rw [h.ls]; omega), bv := h.bv.keptL hk (by rw [h.lv]; omega) }
  rcases (by omega : j = 0 ∨ j = 1 ∨ j = 2 ∨ j = 3) with rfl | rfl | rfl | rfl <;> simp [upd, mcell]
theorem MkAt.setR (h : MkAt w lab M S) (n : Int) (hn : 0 ≤ n ∧ n ≤ 255) : MkAt (w.setCell ⟨M.m, 0, none⟩ (.int .u8 n)) lab M { S with rd := n } := by
  have hk : KeptL lab (fun x => x = 3) w (w.setCell ⟨M.m, 0, none⟩ (.int .u8 n)) := (KeptL.refl lab _ w).set h.lm _
  refine { h with rd := hn, bm := (h.bm.set 0 _ (by omega)).congr (fun j hj => ?_), bs := h.bs.keptL hk (by rw [h.ls]; omega), bv := h.bv.keptL hk (by rw [h.lv]; omega) }
  rcases (by omega : j = 0 ∨ j = 1 ∨ j = 2 ∨ j = 3) with rfl | rfl | rfl | rfl <;> simp [upd, mcell]
end

theorem mcount_any (M : MkM) (S : MkS) (lab : Nat → Nat) (w : World) (h : MkAt w lab M S) : Calls Tryz.prog 24 #[.pointer (some ⟨M.m, 0, none⟩)] w fun e w' => e = .returned (.int .i64 (S.cn)) ∧ w' = w := by
  have c3 := h.c3
  have l1 := h.bm.lt
  clear h
  go_enter Tryz.func24, Tryz.ntmps24
  go_wp2
  go_ret
  exact ⟨rfl, rfl⟩

set_option maxRecDepth 20000 in
theorem mhas_any (M : MkM) (S : MkS) (lab : Nat → Nat) (i : Int) (w : World) (h : MkAt w lab M S) : Calls Tryz.prog 23 #[.pointer (some ⟨M.m, 0, none⟩), .int .i64 (i)] w fun e w' => e = .returned (.bool (S.has i)) ∧ ∃ z, w' = w.ext z := by
  have c0 := h.c0
  have c1 := h.c1
  have l1 := h.bm.lt
  have hn := h.n
  by_cases h0 : 0 ≤ i
  · by_cases h1 : i < S.n
    · obtain ⟨k, rfl⟩ := Int.eq_ofNat_of_zero_le h0
      have s1 := h.bs.is k (by omega)
      have l2 := h.bs.lt
      clear h
      go_enter Tryz.func23, Tryz.ntmps23
      go_wp2
      first | with_reducible refine wp_region_ext2 (by kernel_rfl) (by kernel_rfl) ?_ | refine wp_region_ext (by kernel_rfl) (by kernel_rfl) ?_
      repeat (go_big_quiet_step (fail))
      refine wpQuiet_nil ?_
      rintro _ ⟨z, rfl⟩
      go_wp2
      go_ret
      refine ⟨?_, ?_⟩
      · simp [MkS.has, h1, Bool.beq_eq_decide_eq]
      · refine Below.is_ext ?_
        (repeat (first | with_reducible exact Below.rf _ | with_reducible exact World.below_ext _ _ | with_reducible refine Below.ex ?_ _ | with_reducible refine Below.al ?_ _ | with_reducible refine Below.setCell ?_ (by simp) _ | with_reducible refine Below.drew ?_))
    · have b0 : decide (0 ≤ i) = true := decide_eq_true h0
      have b1 : decide (i < (S.n : Int)) = false := decide_eq_false h1
      clear h
      go_enter Tryz.func23, Tryz.ntmps23
      go_wp2
      first | with_reducible refine wp_region_ext2 (by kernel_rfl) (by kernel_rfl) ?_ | refine wp_region_ext (by kernel_rfl) (by kernel_rfl) ?_
      repeat (go_big_quiet_step (fail))
      refine wpQuiet_nil ?_
      rintro _ ⟨z, rfl⟩
      go_wp2
      go_ret
      refine ⟨?_, ?_⟩
      · simp [MkS.has]; omega
      · refine Below.is_ext ?_
        (repeat (first | with_reducible exact Below.rf _ | with_reducible exact World.below_ext _ _ | with_reducible refine Below.ex ?_ _ | with_reducible refine Below.al ?_ _ | with_reducible refine Below.setCell ?_ (by simp) _ | with_reducible refine Below.drew ?_))
  · have b0 : decide (0 ≤ i) = false := decide_eq_false h0
    clear h
    go_enter Tryz.func23, Tryz.ntmps23
    go_wp2
    first | with_reducible refine wp_region_ext2 (by kernel_rfl) (by kernel_rfl) ?_ | refine wp_region_ext (by kernel_rfl) (by kernel_rfl) ?_
    repeat (go_big_quiet_step (fail))
    refine wpQuiet_nil ?_
    rintro _ ⟨z, rfl⟩
    go_wp2
    go_ret
    refine ⟨?_, ?_⟩
    · simp [MkS.has]; omega
    · refine Below.is_ext ?_
      (repeat (first | with_reducible exact Below.rf _ | with_reducible exact World.below_ext _ _ | with_reducible refine Below.ex ?_ _ | with_reducible refine Below.al ?_ _ | with_reducible refine Below.setCell ?_ (by simp) _ | with_reducible refine Below.drew ?_))

set_option maxRecDepth 20000 in
theorem mget_any (M : MkM) (S : MkS) (lab : Nat → Nat) (i : Int) (w : World) (h : MkAt w lab M S) : Calls Tryz.prog 22 #[.pointer (some ⟨M.m, 0, none⟩), .int .i64 (i)] w fun e w' => e = .returned (.tuple #[.int .i64 (if S.has i then S.vl i.toNat else 0), .bool (S.has i)]) ∧ ∃ z, w' = w.ext z := by
  have c2 := h.c2
  have l1 := h.bm.lt
  have hn := h.n
  have H := hid (mhas_any M S lab i w h)
  by_cases hh : S.has i = true
  · have h2 : 0 ≤ i ∧ i < S.n ∧ S.st i.toNat = S.rd := by simpa [MkS.has] using hh
    obtain ⟨k, rfl⟩ := Int.eq_ofNat_of_zero_le h2.1
    have s1 := h.bv.is k (by omega)
    have l2 := h.bv.lt
    have h3 := h2.2.1
    rw [hh] at H ⊢
    clear h h2
    go_enter Tryz.func22, Tryz.ntmps22
    go_wp2_with (go_at_call 23; refine H.out.mono ?_; rintro e w' ⟨rfl, z, rfl⟩)
    go_wp2
    refine bodyPost_ret (v := .tuple #[.int .i64 (S.vl k), .bool true]) (by simp [results, Tryz.results22, go_sem, ↓IntWalk.iteOmega]) rfl ?_
    refine ⟨by simp, ?_⟩
    refine Below.is_ext ?_
    (repeat (first | with_reducible exact Below.rf _ | with_reducible exact World.below_ext _ _ | with_reducible refine Below.ex ?_ _ | with_reducible refine Below.al ?_ _ | with_reducible refine Below.setCell ?_ (by simp) _ | with_reducible refine Below.drew ?_))
  · simp only [Bool.not_eq_true] at hh
    rw [hh] at H ⊢
    clear h
    go_enter Tryz.func22, Tryz.ntmps22
    go_wp2_with (go_at_call 23; refine H.out.mono ?_; rintro e w' ⟨rfl, z, rfl⟩)
    go_wp2
    refine bodyPost_ret (v := .tuple #[.int .i64 (0), .bool false]) (by simp [results, Tryz.results22, go_sem, ↓IntWalk.iteOmega]) rfl ?_
    refine ⟨by simp, ?_⟩
    refine Below.is_ext ?_
    (repeat (first | with_reducible exact Below.rf _ | with_reducible exact World.below_ext _ _ | with_reducible refine Below.ex ?_ _ | with_reducible refine Below.al ?_ _ | with_reducible refine Below.setCell ?_ (by simp) _ | with_reducible refine Below.drew ?_))

def msetPost (lab : Nat → Nat) (M : MkM) (S' : MkS) (b : Bool) (w : World) (e : Ending) (w' : World) : Prop :=
  e = .returned (.bool b) ∧ MkAt w' lab M S' ∧ KeptL lab markL w w'
theorem mset_no (M : MkM) (S : MkS) (lab : Nat → Nat) (i v : Int) (w : World) (h : MkAt w lab M S) (hi : ¬ (0 ≤ i ∧ i < S.n)) : Calls Tryz.prog 21 #[.pointer (some ⟨M.m, 0, none⟩), .int .i64 (i), .int .i64 (v)] w (msetPost lab M S false w) := by
  have c1 := h.c1
  have l1 := h.bm.lt
  have hn := h.n
  have HH := hid h
  clear h
  by_cases h0 : 0 ≤ i
  · go_enter Tryz.func21, Tryz.ntmps21
    go_wp2
    go_ret
    exact ⟨rfl, HH.out, KeptL.refl _ _ _⟩
  · go_enter Tryz.func21, Tryz.ntmps21
    go_wp2
    go_ret
    exact ⟨rfl, HH.out, KeptL.refl _ _ _⟩
set_option maxRecDepth 20000 in
set_option maxHeartbeats 4000000 in
theorem mset_any (M : MkM) (S : MkS) (lab : Nat → Nat) (i : Nat) (v : Int) (w : World) (h : MkAt w lab M S) (hi : i < S.n) (hcn : S.cn ≤ 1000000000) : Calls Tryz.prog 21 #[.pointer (some ⟨M.m, 0, none⟩), .int .i64 (i), .int .i64 (v)] w (msetPost lab M (S.set i v) true w) := by
  have c0 := h.c0
  have c1 := h.c1
  have c2 := h.c2
  have c3 := h.c3
  have l1 := h.bm.lt
  have hn := h.n
  have s1 := h.bs.is i hi
  have s2 := h.bs.fz i hi
  have v1 := h.bv.is i hi
  have v2 := h.bv.fz i hi
  have m3 := h.bm.fz 3 (by omega)
  have l2 := h.bs.lt
  have l3 := h.bv.lt
  have n1 : M.s ≠ M.m := fun e => by have := h.ls; rw [e, h.lm] at this; omega
  have n2 : M.v ≠ M.m := fun e => by have := h.lv; rw [e, h.lm] at this; omega
  have n3 : M.v ≠ M.s := fun e => by have := h.lv; rw [e, h.ls] at this; omega
  have n1' := Ne.symm n1
  have n2' := Ne.symm n2
  have n3' := Ne.symm n3
  have HH := hid h
  by_cases hs : S.st i = S.rd
  · have b1 : (S.st i == S.rd) = true := by simpa using hs
    have b2 : (S.st i != S.rd) = false := by simp [hs]
    have E := hid (show S.set i v = { S with vl := upd S.vl i v } by simp [MkS.set, hs])
    clear h hs
    go_enter Tryz.func21, Tryz.ntmps21
    go_wp2
    first | with_reducible refine wp_region_ext2 (by kernel_rfl) (by kernel_rfl) ?_ | refine wp_region_ext (by kernel_rfl) (by kernel_rfl) ?_
    repeat (go_big_quiet_step (fail))
    refine wpQuiet_nil ?_
    rintro _ ⟨z, rfl⟩
    go_wp2
    go_ret
    refine ⟨rfl, ?_, ?_⟩
    · rw [E.out]
      exact (HH.out.setV hi v).below (by (repeat (first | with_reducible exact Below.rf _ | with_reducible exact World.below_ext _ _ | with_reducible refine Below.ex ?_ _ | with_reducible refine Below.al ?_ _ | with_reducible refine Below.setCell ?_ (by simp) _ | with_reducible refine Below.drew ?_)))
    · (repeat (first | with_reducible exact KeptL.refl _ _ _ | with_reducible refine KeptL.ex ?_ _ | with_reducible refine KeptL.al ?_ _ | with_reducible refine KeptL.drew ?_ | with_reducible refine KeptL.set ?_ (by first | (have hx := HH.out.lm; have hy := HH.out.ls; have hz := HH.out.lv; unfold markL; omega)) _))
  · have b1 : (S.st i == S.rd) = false := by simpa using hs
    have b2 : (S.st i != S.rd) = true := by simp [hs]
    have E := hid (show S.set i v = { S with st := upd S.st i S.rd, cn := S.cn + 1, vl := upd S.vl i v } by simp [MkS.set, hs])
    have hrd := hid h.rd
    clear h hs
    go_enter Tryz.func21, Tryz.ntmps21
    go_wp2
    first | with_reducible refine wp_region_ext2 (by kernel_rfl) (by kernel_rfl) ?_ | refine wp_region_ext (by kernel_rfl) (by kernel_rfl) ?_
    repeat (go_big_quiet_step (fail))
    refine wpQuiet_nil ?_
    rintro _ ⟨z, rfl⟩
    go_wp2
    first | with_reducible refine wp_region_tail_ext2 9 (by kernel_rfl) (by kernel_rfl) ?_ | refine wp_region_tail_ext 9 (by kernel_rfl) (by kernel_rfl) ?_
    simp only [List.take_succ_cons, List.take_zero, List.drop_succ_cons, List.drop_zero]
    repeat (go_big_quiet_step (fail))
    refine wpQuiet_nil ?_
    rintro _ ⟨z, rfl⟩
    go_wp2
    go_ret
    refine ⟨rfl, ?_, ?_⟩
    · rw [E.out]
      exact (((HH.out.setS hi S.rd hrd.out).setC (S.cn + 1) (x := (S.cn : Int) + 1) (by omega)).setV hi v).below (by (repeat (first | with_reducible exact Below.rf _ | with_reducible exact World.below_ext _ _ | with_reducible refine Below.ex ?_ _ | with_reducible refine Below.al ?_ _ | with_reducible refine Below.setCell ?_ (by simp) _ | with_reducible refine Below.drew ?_)))
    · (repeat (first | with_reducible exact KeptL.refl _ _ _ | with_reducible refine KeptL.ex ?_ _ | with_reducible refine KeptL.al ?_ _ | with_reducible refine KeptL.drew ?_ | with_reducible refine KeptL.set ?_ (by first | (have hx := HH.out.lm; have hy := HH.out.ls; have hz := HH.out.lv; unfold markL; omega)) _))

theorem Blk.fill {w : World} {b n : Nat} {f : Nat → Value} (h : Blk w b n f) (z : Value) : Blk (w.setCells b 0 (List.replicate n z)) b n (fun _ => z) := by
  have hh : ∀ j, j < (List.replicate n z).length → (w.cell? ⟨b, 0 + j, none⟩).isSome = true := fun j hj => by rw [Nat.zero_add, h.is j (by simpa using hj)]; rfl
  have hin := World.cell?_setCells_in b (List.replicate n z) 0 w hh
  refine ⟨by rw [setCells_size]; exact h.lt, fun j hj => ?_, fun j hj => by rw [World.frozen?_setCells]; exact h.fz j hj⟩
  have := hin j (by simpa using hj)
  rw [Nat.zero_add] at this
  rw [this]
  simp [hj]
theorem MkAt.fill {w : World} {lab : Nat → Nat} {M : MkM} {S : MkS} (h : MkAt w lab M S) : MkAt (w.setCells M.s 0 (List.replicate S.n (.int .u8 0))) lab M { S with st := fun _ => 0 } := by
  have hk : KeptL lab (fun x => x = 4) w (w.setCells M.s 0 (List.replicate S.n (.int .u8 0))) := KeptL.of_but (setCells_kept M.s _ _ w) h.ls
  exact { h with st := fun _ _ => by simp, bm := (h.bm.keptL hk (by rw [h.lm]; omega)).congr (fun j hj => rfl), bv := h.bv.keptL hk (by rw [h.lv]; omega), bs := h.bs.fill _ }

def mclrPost (lab : Nat → Nat) (M : MkM) (S' : MkS) (w : World) (e : Ending) (w' : World) : Prop :=
  e = .returned (.tuple #[]) ∧ MkAt w' lab M S' ∧ KeptL lab markL w w'
set_option maxRecDepth 20000 in
set_option maxHeartbeats 4000000 in
theorem mclr_any (M : MkM) (S : MkS) (lab : Nat → Nat) (w : World) (h : MkAt w lab M S) : Calls Tryz.prog 25 #[.pointer (some ⟨M.m, 0, none⟩)] w (mclrPost lab M S.clr w) := by
  have c0 := h.c0
  have c1 := h.c1
  have c3 := h.c3
  have l1 := h.bm.lt
  have hn := h.n
  have m0 := h.bm.fz 0 (by omega)
  have m3 := h.bm.fz 3 (by omega)
  have l2 := h.bs.lt
  have n1 : M.s ≠ M.m := fun e => by have := h.ls; rw [e, h.lm] at this; omega
  have n1' := Ne.symm n1
  have hrd := h.rd
  have HH := hid h
  have zero5 : ∀ w, (zeroValue 5).run Tryz.prog w = .ok (.int .u8 0) w := fun w => by kernel_rfl
  by_cases hs : S.rd = 255
  · have E := hid (show S.clr = { S with rd := 1, st := fun _ => 0, cn := 0 } by simp [MkS.clr, hs])
    have hcl : ∀ ty (w2 : World), w2 = (w.setCell ⟨M.m, 3, none⟩ (.int .i64 (0))).setCell ⟨M.m, 0, none⟩ (.int .u8 0) → (Builtin.clear_ #[90] ty #[.slice (some ⟨M.s, 0, none⟩) S.n S.n]).run Tryz.prog w2 = .ok (.tuple #[]) (w2.setCells M.s 0 (List.replicate S.n (.int .u8 0))) := by
      intro ty w2 e
      by_cases h0 : 0 < S.n
      · refine Lib.run_clear_slice w2 90 5 ty (.int .u8 0) Tryz.underlying90 zero5 rfl rfl M.s 0 S.n S.n h0 (fun j hj => ?_) (fun j hj => ?_)
        · have := h.bs.is j hj
          rw [Nat.zero_add, e]
          simp [go_sem, ↓IntWalk.iteOmega, *]
        · have := h.bs.fz j hj
          rw [Nat.zero_add, e]
          simp [go_sem, ↓IntWalk.iteOmega, *]
      · obtain h1 : S.n = 0 := by omega
        rw [h1]
        simp [Builtin.clear_, run_underlying Tryz.underlying90, World.setCells]
    obtain ⟨w3, hw3⟩ : ∃ w3, w3 = World.setCells ((w.setCell ⟨M.m, 3, none⟩ (.int .i64 (0))).setCell ⟨M.m, 0, none⟩ (.int .u8 0)) M.s 0 (List.replicate S.n (.int .u8 0)) := ⟨_, rfl⟩
    have hcl' := fun ty => hcl ty _ rfl
    rw [← hw3] at hcl'
    have hkb := setCells_kept M.s (List.replicate S.n (.int .u8 0)) 0 ((w.setCell ⟨M.m, 3, none⟩ (.int .i64 (0))).setCell ⟨M.m, 0, none⟩ (.int .u8 0))
    rw [← hw3] at hkb
    have g0 : w3.cell? ⟨M.m, 0, none⟩ = some (.int .u8 0) := by rw [hkb.cell 0 (by simpa using l1) n1']; simp [go_sem, ↓IntWalk.iteOmega, *]
    have g1 : w3.frozen? ⟨M.m, 0, none⟩ = false := by rw [hkb.frozen 0 (by simpa using l1) n1']; simp [go_sem, ↓IntWalk.iteOmega, *]
    have g2 : w3.heap.size = w.heap.size := by rw [hw3, setCells_size]; simp
    rw [hs] at c0
    have HW := hid hw3
    have HKB := hid hkb
    clear h hcl hw3 hkb
    go_enter Tryz.func25, Tryz.ntmps25
    go_wp2_with (simp only [hcl'])
    refine bodyPost_end (v := .tuple #[]) (by simp [results, Tryz.results25]) rfl ?_
    refine ⟨rfl, ?_, ?_⟩
    · rw [E.out, HW.out]
      exact ((((HH.out.setC 0 (x := 0) rfl).setR 0 (by omega)).fill).setR 1 (by omega))
    · refine KeptL.set ?_ (by have hx := HH.out.lm; unfold markL; omega) _
      refine KeptL.trans ?_ (KeptL.of_but HKB.out (by have hy := HH.out.ls; unfold markL; omega))
      (repeat (first | with_reducible exact KeptL.refl _ _ _ | with_reducible refine KeptL.ex ?_ _ | with_reducible refine KeptL.al ?_ _ | with_reducible refine KeptL.drew ?_ | with_reducible refine KeptL.set ?_ (by first | (have hx := HH.out.lm; have hy := HH.out.ls; have hz := HH.out.lv; unfold markL; omega)) _))
  · have E := hid (show S.clr = { S with rd := S.rd + 1, cn := 0 } by simp [MkS.clr, hs])
    have b1 : (S.rd + 1 != 0) = true := by simp; omega
    have b2 : (S.rd + 1 == 0) = false := by simp; omega
    clear h
    go_enter Tryz.func25, Tryz.ntmps25
    go_wp2
    refine bodyPost_ret (v := .tuple #[]) (by simp [results, Tryz.results25]) rfl ?_
    refine ⟨rfl, ?_, ?_⟩
    · rw [E.out]
      exact (HH.out.setC 0 (x := 0) rfl).setR (S.rd + 1) (by omega)
    · (repeat (first | with_reducible exact KeptL.refl _ _ _ | with_reducible refine KeptL.ex ?_ _ | with_reducible refine KeptL.al ?_ _ | with_reducible refine KeptL.drew ?_ | with_reducible refine KeptL.set ?_ (by first | (have hx := HH.out.lm; have hy := HH.out.ls; have hz := HH.out.lv; unfold markL; omega)) _))
end Go.Proofs.Qxb6500717aGreat
