/-
  A new table.
-/
import Derived.Test.Qxb6500717aGreatMk
import Derived.Test.Qxb6500717aGreatAdv
namespace Go.Proofs.Qxb6500717aGreat
open Go.RowKit
set_option linter.unusedSimpArgs false
set_option linter.unusedVariables false

/-- An empty table. -/
def TabS.new (nc nr cap : Nat) : TabS := ⟨nc, nr, cap, 0, 0, fun _ => 0, fun _ _ => -1, fun _ => []⟩
def newOk (c r k : Int) : Bool := decide ((1 ≤ c ∧ c ≤ 150) ∧ (1 ≤ r ∧ r ≤ 6) ∧ (1 ≤ k ∧ k ≤ 1536))
theorem new_no (c r k : Int) (w : World) (h : newOk c r k = false) : Calls Tryz.prog 13 #[.int .i64 (c), .int .i64 (r), .int .i64 (k)] w fun e w' => e = .returned (.tuple #[.pointer none, .int .u8 2]) ∧ w' = w := by
  have h' : ¬ ((1 ≤ c ∧ c ≤ 150) ∧ (1 ≤ r ∧ r ≤ 6) ∧ (1 ≤ k ∧ k ≤ 1536)) := by simpa [newOk] using h
  by_cases h1 : c < 1
  · clear h h'
    go_enter Tryz.func13, Tryz.ntmps13
    go_wp2
    refine bodyPost_ret (v := .tuple #[.pointer none, .int .u8 2]) (by simp [results, Tryz.results13, go_sem, ↓IntWalk.iteOmega]) rfl ?_
    exact ⟨rfl, rfl⟩
  by_cases h2 : 150 < c
  · clear h h'
    go_enter Tryz.func13, Tryz.ntmps13
    go_wp2
    refine bodyPost_ret (v := .tuple #[.pointer none, .int .u8 2]) (by simp [results, Tryz.results13, go_sem, ↓IntWalk.iteOmega]) rfl ?_
    exact ⟨rfl, rfl⟩
  by_cases h3 : r < 1
  · clear h h'
    go_enter Tryz.func13, Tryz.ntmps13
    go_wp2
    refine bodyPost_ret (v := .tuple #[.pointer none, .int .u8 2]) (by simp [results, Tryz.results13, go_sem, ↓IntWalk.iteOmega]) rfl ?_
    exact ⟨rfl, rfl⟩
  by_cases h4 : 6 < r
  · clear h h'
    go_enter Tryz.func13, Tryz.ntmps13
    go_wp2
    refine bodyPost_ret (v := .tuple #[.pointer none, .int .u8 2]) (by simp [results, Tryz.results13, go_sem, ↓IntWalk.iteOmega]) rfl ?_
    exact ⟨rfl, rfl⟩
  by_cases h5 : k < 1
  · clear h h'
    go_enter Tryz.func13, Tryz.ntmps13
    go_wp2
    refine bodyPost_ret (v := .tuple #[.pointer none, .int .u8 2]) (by simp [results, Tryz.results13, go_sem, ↓IntWalk.iteOmega]) rfl ?_
    exact ⟨rfl, rfl⟩
  have h6 : 1536 < k := by omega
  clear h h'
  go_enter Tryz.func13, Tryz.ntmps13
  go_wp2
  refine bodyPost_ret (v := .tuple #[.pointer none, .int .u8 2]) (by simp [results, Tryz.results13, go_sem, ↓IntWalk.iteOmega]) rfl ?_
  exact ⟨rfl, rfl⟩

theorem region_via {P : Program} {id : Nat} {l : Array Oper} {b : Bool} {Q : Exit → Act → World → Prop} {a : Act} {w : World} (R : Act → Act → World → Prop) (h : (Code.region id l b).wp P (fun x a' w' => x = .normal ∧ R a a' w') a w)
    (k : ∀ a' w', R a a' w' → Q .normal a' w') : (Code.region id l b).wp P Q a w :=
  Code.wp_mono (fun e a' w' ⟨h1, h2⟩ => by subst h1; exact k a' w' h2) h

/-- The four blocks of a table that is being laid. -/
structure NewB (nc nr cap : Nat) (w w3 : World) (g p s t : Nat) : Prop where
  hg : w.heap.size ≤ g
  hp : w.heap.size ≤ p
  hs : w.heap.size ≤ s
  ht : w.heap.size ≤ t
  n1 : g ≠ p
  n2 : g ≠ s
  n3 : g ≠ t
  n4 : p ≠ s
  n5 : p ≠ t
  n6 : s ≠ t
  bl : Below w.heap.size w w3
  bt : Blk w3 t 8 (tcell ⟨t, g, p, s, fun _ => 0, fun _ => .slice none 0 0, 256 * nc, fun _ => 256⟩ (TabS.new nc nr cap))
  bg : Blk w3 g (256 * nc) (fun _ => .int .i8 0)
  bp : Blk w3 p nr (fun _ => .slice none 0 0)
  bs : Blk w3 s nr (fun _ => .slice none 0 0)

/-- The rows of the first k robots are laid too. -/
structure NewK (nc nr cap k : Nat) (w w4 : World) (g p s t : Nat) (pr : Nat → Nat) : Prop where
  hg : w.heap.size ≤ g
  hp : w.heap.size ≤ p
  hs : w.heap.size ≤ s
  ht : w.heap.size ≤ t
  n1 : g ≠ p
  n2 : g ≠ s
  n3 : g ≠ t
  n4 : p ≠ s
  n5 : p ≠ t
  n6 : s ≠ t
  bl : Below w.heap.size w w4
  bt : Blk w4 t 8 (tcell ⟨t, g, p, s, fun _ => 0, fun _ => .slice none 0 0, 256 * nc, fun _ => 256⟩ (TabS.new nc nr cap))
  bg : Blk w4 g (256 * nc) (fun _ => .int .i8 0)
  bp : Blk w4 p nr (fun j => if j < k then .slice (some ⟨pr j, 0, none⟩) 256 256 else .slice none 0 0)
  bs : Blk w4 s nr (fun _ => .slice none 0 0)
  rows : ∀ j, j < k → (w.heap.size ≤ pr j ∧ pr j ≠ g ∧ pr j ≠ p ∧ pr j ≠ s ∧ pr j ≠ t) ∧ Blk w4 (pr j) 256 (fun _ => .int .i16 (-1))
  inj : ∀ i j, i < k → j < k → i ≠ j → pr i ≠ pr j
theorem NewB.k0 {nc nr cap : Nat} {w w3 : World} {g p s t : Nat} (h : NewB nc nr cap w w3 g p s t) (pr : Nat → Nat) : NewK nc nr cap 0 w w3 g p s t pr :=
  { h with bp := h.bp.congr (fun i hi => by simp), rows := fun j hj => absurd hj (Nat.not_lt_zero _), inj := fun i j hi => absurd hi (Nat.not_lt_zero _) }
/-- The labels of a new table. -/
def newLab (lab : Nat → Nat) (nr g p s t : Nat) (pr : Nat → Nat) (j : Nat) : Nat :=
  if j = t then 6 else if j = g then 7 else if j = p then 8 else if j = s then 9 else if j = pr 0 ∧ 0 < nr then 10 else if j = pr 1 ∧ 1 < nr then 11 else if j = pr 2 ∧ 2 < nr then 12 else if j = pr 3 ∧ 3 < nr then 13 else if j = pr 4 ∧ 4 < nr then 14 else if j = pr 5 ∧ 5 < nr then 15 else lab j
theorem NewK.done {nc nr cap : Nat} (hc : 1 ≤ nc ∧ nc ≤ 150) (hr : 1 ≤ nr ∧ nr ≤ 6) (hk : 1 ≤ cap ∧ cap ≤ 1536) {w w4 : World} {g p s t : Nat} {pr : Nat → Nat} (lab : Nat → Nat) (h : NewK nc nr cap nr w w4 g p s t pr) :
    TAt w4 (newLab lab nr g p s t pr) ⟨t, g, p, s, pr, fun _ => .slice none 0 0, 256 * nc, fun _ => 256⟩ (TabS.new nc nr cap) ∧ (∀ j, j < w.heap.size → newLab lab nr g p s t pr j = lab j) := by
  have h1 := h.n1
  have h2 := h.n2
  have h3 := h.n3
  have h4 := h.n4
  have h5 := h.n5
  have h6 := h.n6
  refine ⟨⟨⟨hc, hr, hk.2, by simp [TabS.new], by simp [TabS.new], fun i _ => ⟨by simp [TabS.new], by simp [TabS.new]⟩, fun r u _ _ => ⟨by simp [TabS.new], by simp [TabS.new]; omega⟩, fun r x _ hx => by simp [TabS.new] at hx, fun r _ => by simp [TabS.new]⟩,
    h.bt.congr (fun i hi => by rcases (by omega : i = 0 ∨ i = 1 ∨ i = 2 ∨ i = 3 ∨ i = 4 ∨ i = 5 ∨ i = 6 ∨ i = 7) with rfl | rfl | rfl | rfl | rfl | rfl | rfl | rfl <;> rfl), h.bg, h.bp.congr (fun i hi => by simp only [if_pos (show i < nr from hi)]), fun r hr => (h.rows r hr).2, h.bs, fun r hr => ⟨none, 0, rfl, by simp [TabS.new], Or.inl ⟨rfl, rfl⟩⟩, ?_, ?_, ?_, ?_, fun r hr2 => ?_⟩, fun j hj => ?_⟩
  · simp [newLab]
  · simp [newLab, h3]
  · simp [newLab, h5, Ne.symm h1]
  · simp [newLab, h6, Ne.symm h2, Ne.symm h4]
  · have hrow := (h.rows r hr2).1
    have e : newLab lab nr g p s t pr (pr r) = if pr r = pr 0 ∧ 0 < nr then 10 else if pr r = pr 1 ∧ 1 < nr then 11 else if pr r = pr 2 ∧ 2 < nr then 12 else if pr r = pr 3 ∧ 3 < nr then 13 else if pr r = pr 4 ∧ 4 < nr then 14 else if pr r = pr 5 ∧ 5 < nr then 15 else lab (pr r) := by
      unfold newLab
      rw [if_neg hrow.2.2.2.2, if_neg hrow.2.1, if_neg hrow.2.2.1, if_neg hrow.2.2.2.1]
    have hr3 : r < nr := hr2
    show newLab lab nr g p s t pr (pr r) = 10 + r
    rw [e]
    have hi : ∀ j, j < nr → j ≠ r → ¬ (pr r = pr j ∧ j < nr) := fun j hj hn hh => h.inj r j hr3 hj (Ne.symm hn) hh.1
    have hi2 : ∀ j, j ≠ r → ¬ (pr r = pr j ∧ j < nr) := fun j hn hh => h.inj r j hr3 hh.2 (Ne.symm hn) hh.1
    rcases (by omega : r = 0 ∨ r = 1 ∨ r = 2 ∨ r = 3 ∨ r = 4 ∨ r = 5) with rfl | rfl | rfl | rfl | rfl | rfl
    · rw [if_pos ⟨rfl, hr3⟩]
    · rw [if_neg (hi2 0 (by omega)), if_pos ⟨rfl, hr3⟩]
    · rw [if_neg (hi2 0 (by omega)), if_neg (hi2 1 (by omega)), if_pos ⟨rfl, hr3⟩]
    · rw [if_neg (hi2 0 (by omega)), if_neg (hi2 1 (by omega)), if_neg (hi2 2 (by omega)), if_pos ⟨rfl, hr3⟩]
    · rw [if_neg (hi2 0 (by omega)), if_neg (hi2 1 (by omega)), if_neg (hi2 2 (by omega)), if_neg (hi2 3 (by omega)), if_pos ⟨rfl, hr3⟩]
    · rw [if_neg (hi2 0 (by omega)), if_neg (hi2 1 (by omega)), if_neg (hi2 2 (by omega)), if_neg (hi2 3 (by omega)), if_neg (hi2 4 (by omega)), if_pos ⟨rfl, hr3⟩]
  · have a1 := h.hg
    have a2 := h.hp
    have a3 := h.hs
    have a4 := h.ht
    have hi2 : ∀ i, ¬ (j = pr i ∧ i < nr) := fun i hh => by
      have := (h.rows i hh.2).1.1
      omega
    unfold newLab
    rw [if_neg (by omega), if_neg (by omega), if_neg (by omega), if_neg (by omega), if_neg (hi2 0), if_neg (hi2 1), if_neg (hi2 2), if_neg (hi2 3), if_neg (hi2 4), if_neg (hi2 5)]
theorem NewK.step {nc nr cap k : Nat} {w w4 w5 w6 : World} {g p s t : Nat} {pr : Nat → Nat} {Z : Array Value} (h : NewK nc nr cap k w w4 g p s t pr) (hk : k < nr) (b : Nat) (hb : b = w4.heap.size)
    (hw5 : w5 = ((w4.setCell ⟨p, k, none⟩ (.slice (some ⟨b, 0, none⟩) 256 256)).alloc (.cells Z 99)).drew)
    (hw : KeptBut b w5 w6) (hr : Blk w6 b 256 (fun _ => .int .i16 (-1))) : NewK nc nr cap (k + 1) w w6 g p s t (upd pr k b) := by
  have hs1 := h.bl.size
  have ng : g ≠ b := by have := h.bg.lt; omega
  have np : p ≠ b := by have := h.bp.lt; omega
  have ns : s ≠ b := by have := h.bs.lt; omega
  have nt : t ≠ b := by have := h.bt.lt; omega
  have hB5 : Below (w4.setCell ⟨p, k, none⟩ (.slice (some ⟨b, 0, none⟩) 256 256)).heap.size (w4.setCell ⟨p, k, none⟩ (.slice (some ⟨b, 0, none⟩) 256 256)) w5 := by rw [hw5]; exact ((Below.rf _).al _).drew
  have hkp : KeptBut p w4 w5 := ((KeptBut.refl p w4).set (Or.inl rfl) _).below hB5 (by simp)
  have mv : ∀ {c n : Nat} {f : Nat → Value}, Blk w4 c n f → c ≠ p → c ≠ b → Blk w6 c n f := fun hB h1 h2 => (hB.kept hkp h1).kept hw h2
  refine ⟨h.hg, h.hp, h.hs, h.ht, h.n1, h.n2, h.n3, h.n4, h.n5, h.n6, ?_, mv h.bt (Ne.symm h.n5) nt, mv h.bg h.n1 ng, ?_, mv h.bs (Ne.symm h.n4) ns, fun j hj => ?_, fun i j hi hj hij => ?_⟩
  · refine ⟨?_, ?_, ?_, ?_, fun c hc => ?_⟩
    · rw [hw.os, hkp.os, h.bl.os]
    · rw [hw.tape, hkp.tape, h.bl.tape]
    · rw [hw.output, hkp.output, h.bl.output]
    · have := hw.size; have := hkp.size; omega
    · have := h.hp
      rw [hw.block c (by have := hkp.size; omega) (by omega), hkp.block c (by omega) (by omega), h.bl.block c hc]
  · have h1 := (h.bp.set k (.slice (some ⟨b, 0, none⟩) 256 256) hk).below hB5
    refine (h1.kept hw np).congr (fun j hj => ?_)
    unfold upd
    by_cases e : j = k
    · subst e; rw [if_pos rfl, if_pos (by omega), if_pos rfl]
    · rw [if_neg e]
      by_cases e2 : j < k
      · simp only [if_pos e2, if_pos (show j < k + 1 by omega), if_neg e]
      · simp only [if_neg e2, if_neg (show ¬ j < k + 1 by omega)]
  · by_cases e : j = k
    · subst e
      rw [upd_at]
      exact ⟨⟨by omega, Ne.symm ng, Ne.symm np, Ne.symm ns, Ne.symm nt⟩, hr⟩
    · rw [upd_ne _ _ e]
      have := h.rows j (by omega)
      exact ⟨this.1, mv this.2 this.1.2.2.1 (by have := this.2.lt; omega)⟩
  · have lt : ∀ c, c < k → pr c < w4.heap.size := fun c hc => (h.rows c hc).2.lt
    by_cases e : i = k
    · subst e
      rw [upd_at, upd_ne _ _ (Ne.symm hij)]
      have := lt j (by omega)
      omega
    · rw [upd_ne _ _ e]
      by_cases e2 : j = k
      · subst e2
        rw [upd_at]
        have := lt i (by omega)
        omega
      · rw [upd_ne _ _ e2]
        exact h.inj i j (by omega) (by omega) hij

def newPost (lab : Nat → Nat) (T : TabS) (w : World) (e : Ending) (w' : World) : Prop :=
  ∃ (M : TabM) (lab' : Nat → Nat), e = .returned (.tuple #[.pointer (some ⟨M.t, 0, none⟩), .int .u8 0]) ∧ TAt w' lab' M T ∧ (∀ j, j < w.heap.size → lab' j = lab j) ∧ Below w.heap.size w w'

def newR (nc nr cap : Nat) (w : World) (a a' : Act) (w3 : World) : Prop :=
  ∃ g p s t, NewB nc nr cap w w3 g p s t ∧
    a' = ((((((((((((a.put (some 33) (.int .i64 (nc))).put (some 34) (.int .i64 (nr))).put (some 35) (.int .i64 (cap))).put (some 36) (.int .i64 (nc))).put (some 37) (.int .i64 (256 * nc))).put (some 39) (.int .i64 (nr))).put (some 41) (.int .i64 (nr))).put (some 38) (.slice (some ⟨g, 0, none⟩) (256 * nc) (256 * nc))).put (some 40) (.slice (some ⟨p, 0, none⟩) nr nr)).put (some 42) (.slice (some ⟨s, 0, none⟩) nr nr)).put (some 43) (.agg #[.int .i64 (nc), .int .i64 (nr), .int .i64 (cap), .int .i64 (0), .int .i64 (0), .slice (some ⟨g, 0, none⟩) (256 * nc) (256 * nc), .slice (some ⟨p, 0, none⟩) nr nr, .slice (some ⟨s, 0, none⟩) nr nr])).put (some 44) (.pointer (some ⟨t, 0, none⟩))).put (some 8) (.pointer (some ⟨t, 0, none⟩))

set_option maxRecDepth 20000 in
set_option maxHeartbeats 4000000 in
theorem new_any (nc nr cap : Nat) (hc : 1 ≤ nc ∧ nc ≤ 150) (hr : 1 ≤ nr ∧ nr ≤ 6) (hk : 1 ≤ cap ∧ cap ≤ 1536) (lab : Nat → Nat) (w : World) : Calls Tryz.prog 13 #[.int .i64 (nc), .int .i64 (nr), .int .i64 (cap)] w (newPost lab (TabS.new nc nr cap) w) := by
  obtain ⟨Zg, hg1, hg2, hg3⟩ := make_is (P := Tryz.prog) 93 108 (.int .i8 0) 1 1 Tryz.underlying93 (by kernel_rfl) (256 * nc) (by omega) (by omega)
  obtain ⟨Zp, hp1, hp2, hp3⟩ := make_is (P := Tryz.prog) 94 98 (.slice none 0 0) 1 24 Tryz.underlying94 (by kernel_rfl) nr (by omega) (by omega)
  obtain ⟨Zs, hs1, hs2, hs3⟩ := make_is (P := Tryz.prog) 95 105 (.slice none 0 0) 1 24 Tryz.underlying95 (by kernel_rfl) nr (by omega) (by omega)
  obtain ⟨Zr, hr1, hr2, hr3⟩ := make_is (P := Tryz.prog) 98 99 (.int .i16 0) 1 2 Tryz.underlying98 (by kernel_rfl) 256 (by omega) (by omega)
  rw [show ((256 : Nat) : Int) = 256 from rfl] at hr3
  have HG2 := hid hg2
  have HP2 := hid hp2
  have HS2 := hid hs2
  have HR2 := hid hr2
  clear hg2 hp2 hs2 hr2
  rw [show ((256 * nc : Nat) : Int) = 256 * (nc : Int) by omega] at hg3
  have hwr : IntKind.i64.wrap (256 * (nc : Int)) = 256 * (nc : Int) := by simp [IntKind.wrap, IntKind.bits, IntKind.signed]; omega
  have d1 : decide ((nc : Int) < 1) = false := by simp; omega
  have d2 : decide (150 < (nc : Int)) = false := by simp; omega
  have d3 : decide ((nr : Int) < 1) = false := by simp; omega
  have d4 : decide (6 < (nr : Int)) = false := by simp; omega
  have d5 : decide ((cap : Int) < 1) = false := by simp; omega
  have d6 : decide (1536 < (cap : Int)) = false := by simp; omega
  go_enter Tryz.func13, Tryz.ntmps13
  go_wp2
  refine region_via (newR nc nr cap w) ?_ ?_
  · refine wp_region_tree 11 (fun _ => True) (.q 0 false (.q 1 false (.q 2 false (.q 3 false (.q 4 false (.q 6 false (.q 8 false (.three 5 7 9 (.two 7 9 (.one 9 true (.q 10 false (.one 11 false (.one 12 false .nil)))) (.one 7 true (.q 10 false (.one 11 false (.one 12 false .nil))))) (.two 5 9 (.one 9 true (.q 10 false (.one 11 false (.one 12 false .nil)))) (.one 5 true (.q 10 false (.one 11 false (.one 12 false .nil))))) (.two 5 7 (.one 7 true (.q 10 false (.one 11 false (.one 12 false .nil)))) (.one 5 true (.q 10 false (.one 11 false (.one 12 false .nil))))))))))))) (by kernel_rfl) (by kernel_rfl) (by kernel_rfl) trivial ?_
    repeat (first | (refine wpTr_qf (v := ?_) rfl rfl ?_ ?_; rotate_left; focus (intro w; go_simp; (try (with_reducible rfl)); done); try simp only [List.getElem_toArray, List.getElem_cons_zero, List.getElem_cons_succ, Act.put, List.setIfInBounds_toArray, List.set_cons_zero, List.set_cons_succ]) | (refine wpTr_qt (v := ?_) rfl rfl ?_ ?_; rotate_left; focus (intro w hSw; (try dsimp only at hSw); go_simp; (try (with_reducible rfl)); done); try simp only [List.getElem_toArray, List.getElem_cons_zero, List.getElem_cons_succ, Act.put, List.setIfInBounds_toArray, List.set_cons_zero, List.set_cons_succ]))
    refine wpTr_three rfl rfl rfl rfl rfl rfl ?_ ?_ ?_
    · intro K hK
      go_simp
      refine hK.out _ _ trivial ?_
      clear hK K
      refine wpTr_two rfl rfl rfl rfl ?_ ?_
      · intro K hK
        go_simp
        refine hK.out _ _ trivial ?_
        clear hK K
        refine wpTr_one rfl rfl (fun K hK => ?_)
        go_simp
        refine hK.out _ _ (fun _ => by simp [go_sem, ↓IntWalk.iteOmega, *]) ?_
        clear hK K
        repeat (first | (refine wpTr_qf (v := ?_) rfl rfl ?_ ?_; rotate_left; focus (intro w; go_simp; (try (with_reducible rfl)); done); try simp only [List.getElem_toArray, List.getElem_cons_zero, List.getElem_cons_succ, Act.put, List.setIfInBounds_toArray, List.set_cons_zero, List.set_cons_succ]) | (refine wpTr_qt (v := ?_) rfl rfl ?_ ?_; rotate_left; focus (intro w hSw; (try dsimp only at hSw); go_simp; (try (with_reducible rfl)); done); try simp only [List.getElem_toArray, List.getElem_cons_zero, List.getElem_cons_succ, Act.put, List.setIfInBounds_toArray, List.set_cons_zero, List.set_cons_succ]))
        refine wpTr_one rfl rfl (fun K hK => ?_)
        go_simp
        refine hK.out _ _ (fun h => by cases h) ?_
        clear hK K
        refine wpTr_one rfl rfl (fun K hK => ?_)
        go_simp
        refine hK.out _ _ (fun h => by cases h) ?_
        clear hK K
        refine wpTr_nil ?_
        refine NoPanic.normal ?_
        refine ⟨rfl, w.heap.size, w.heap.size + 1, w.heap.size + 1 + 1, w.heap.size + 1 + 1 + 1, ?_, ?_⟩
        rotate_left
        simp only [Act.put, List.setIfInBounds_toArray, List.set_cons_zero, List.set_cons_succ]
        refine ⟨by omega, by omega, by omega, by omega, by omega, by omega, by omega, by omega, by omega, by omega, by (repeat (first | with_reducible exact Below.rf _ | with_reducible exact World.below_ext _ _ | with_reducible refine Below.ex ?_ _ | with_reducible refine Below.al ?_ _ | with_reducible refine Below.setCell ?_ (by simp) _ | with_reducible refine Below.drew ?_)), ⟨?_, fun i hi => ?_, fun i hi => ?_⟩, ⟨?_, fun i hi => ?_, fun i hi => ?_⟩, ⟨?_, fun i hi => ?_, fun i hi => ?_⟩, ⟨?_, fun i hi => ?_, fun i hi => ?_⟩⟩
        simp
        rcases (by omega : i = 0 ∨ i = 1 ∨ i = 2 ∨ i = 3 ∨ i = 4 ∨ i = 5 ∨ i = 6 ∨ i = 7) with rfl | rfl | rfl | rfl | rfl | rfl | rfl | rfl <;> simp [go_sem, ↓IntWalk.iteOmega, tcell, TabS.new]
        simp [go_sem, ↓IntWalk.iteOmega]
        simp <;> omega
        simp [go_sem, ↓IntWalk.iteOmega, HG2.out, hi, made1]
        simp [go_sem, ↓IntWalk.iteOmega]
        simp <;> omega
        simp [go_sem, ↓IntWalk.iteOmega, HP2.out, hi, made1]
        simp [go_sem, ↓IntWalk.iteOmega]
        simp <;> omega
        simp [go_sem, ↓IntWalk.iteOmega, HS2.out, hi, made1]
        simp [go_sem, ↓IntWalk.iteOmega]
      · intro K hK
        go_simp
        refine hK.out _ _ trivial ?_
        clear hK K
        refine wpTr_one rfl rfl (fun K hK => ?_)
        go_simp
        refine hK.out _ _ (fun _ => by simp [go_sem, ↓IntWalk.iteOmega, *]) ?_
        clear hK K
        repeat (first | (refine wpTr_qf (v := ?_) rfl rfl ?_ ?_; rotate_left; focus (intro w; go_simp; (try (with_reducible rfl)); done); try simp only [List.getElem_toArray, List.getElem_cons_zero, List.getElem_cons_succ, Act.put, List.setIfInBounds_toArray, List.set_cons_zero, List.set_cons_succ]) | (refine wpTr_qt (v := ?_) rfl rfl ?_ ?_; rotate_left; focus (intro w hSw; (try dsimp only at hSw); go_simp; (try (with_reducible rfl)); done); try simp only [List.getElem_toArray, List.getElem_cons_zero, List.getElem_cons_succ, Act.put, List.setIfInBounds_toArray, List.set_cons_zero, List.set_cons_succ]))
        refine wpTr_one rfl rfl (fun K hK => ?_)
        go_simp
        refine hK.out _ _ (fun h => by cases h) ?_
        clear hK K
        refine wpTr_one rfl rfl (fun K hK => ?_)
        go_simp
        refine hK.out _ _ (fun h => by cases h) ?_
        clear hK K
        refine wpTr_nil ?_
        refine NoPanic.normal ?_
        refine ⟨rfl, w.heap.size, w.heap.size + 1 + 1, w.heap.size + 1, w.heap.size + 1 + 1 + 1, ?_, ?_⟩
        rotate_left
        simp only [Act.put, List.setIfInBounds_toArray, List.set_cons_zero, List.set_cons_succ]
        refine ⟨by omega, by omega, by omega, by omega, by omega, by omega, by omega, by omega, by omega, by omega, by (repeat (first | with_reducible exact Below.rf _ | with_reducible exact World.below_ext _ _ | with_reducible refine Below.ex ?_ _ | with_reducible refine Below.al ?_ _ | with_reducible refine Below.setCell ?_ (by simp) _ | with_reducible refine Below.drew ?_)), ⟨?_, fun i hi => ?_, fun i hi => ?_⟩, ⟨?_, fun i hi => ?_, fun i hi => ?_⟩, ⟨?_, fun i hi => ?_, fun i hi => ?_⟩, ⟨?_, fun i hi => ?_, fun i hi => ?_⟩⟩
        simp
        rcases (by omega : i = 0 ∨ i = 1 ∨ i = 2 ∨ i = 3 ∨ i = 4 ∨ i = 5 ∨ i = 6 ∨ i = 7) with rfl | rfl | rfl | rfl | rfl | rfl | rfl | rfl <;> simp [go_sem, ↓IntWalk.iteOmega, tcell, TabS.new]
        simp [go_sem, ↓IntWalk.iteOmega]
        simp <;> omega
        simp [go_sem, ↓IntWalk.iteOmega, HG2.out, hi, made1]
        simp [go_sem, ↓IntWalk.iteOmega]
        simp <;> omega
        simp [go_sem, ↓IntWalk.iteOmega, HP2.out, hi, made1]
        simp [go_sem, ↓IntWalk.iteOmega]
        simp <;> omega
        simp [go_sem, ↓IntWalk.iteOmega, HS2.out, hi, made1]
        simp [go_sem, ↓IntWalk.iteOmega]
    · intro K hK
      go_simp
      refine hK.out _ _ trivial ?_
      clear hK K
      refine wpTr_two rfl rfl rfl rfl ?_ ?_
      · intro K hK
        go_simp
        refine hK.out _ _ trivial ?_
        clear hK K
        refine wpTr_one rfl rfl (fun K hK => ?_)
        go_simp
        refine hK.out _ _ (fun _ => by simp [go_sem, ↓IntWalk.iteOmega, *]) ?_
        clear hK K
        repeat (first | (refine wpTr_qf (v := ?_) rfl rfl ?_ ?_; rotate_left; focus (intro w; go_simp; (try (with_reducible rfl)); done); try simp only [List.getElem_toArray, List.getElem_cons_zero, List.getElem_cons_succ, Act.put, List.setIfInBounds_toArray, List.set_cons_zero, List.set_cons_succ]) | (refine wpTr_qt (v := ?_) rfl rfl ?_ ?_; rotate_left; focus (intro w hSw; (try dsimp only at hSw); go_simp; (try (with_reducible rfl)); done); try simp only [List.getElem_toArray, List.getElem_cons_zero, List.getElem_cons_succ, Act.put, List.setIfInBounds_toArray, List.set_cons_zero, List.set_cons_succ]))
        refine wpTr_one rfl rfl (fun K hK => ?_)
        go_simp
        refine hK.out _ _ (fun h => by cases h) ?_
        clear hK K
        refine wpTr_one rfl rfl (fun K hK => ?_)
        go_simp
        refine hK.out _ _ (fun h => by cases h) ?_
        clear hK K
        refine wpTr_nil ?_
        refine NoPanic.normal ?_
        refine ⟨rfl, w.heap.size + 1, w.heap.size, w.heap.size + 1 + 1, w.heap.size + 1 + 1 + 1, ?_, ?_⟩
        rotate_left
        simp only [Act.put, List.setIfInBounds_toArray, List.set_cons_zero, List.set_cons_succ]
        refine ⟨by omega, by omega, by omega, by omega, by omega, by omega, by omega, by omega, by omega, by omega, by (repeat (first | with_reducible exact Below.rf _ | with_reducible exact World.below_ext _ _ | with_reducible refine Below.ex ?_ _ | with_reducible refine Below.al ?_ _ | with_reducible refine Below.setCell ?_ (by simp) _ | with_reducible refine Below.drew ?_)), ⟨?_, fun i hi => ?_, fun i hi => ?_⟩, ⟨?_, fun i hi => ?_, fun i hi => ?_⟩, ⟨?_, fun i hi => ?_, fun i hi => ?_⟩, ⟨?_, fun i hi => ?_, fun i hi => ?_⟩⟩
        simp
        rcases (by omega : i = 0 ∨ i = 1 ∨ i = 2 ∨ i = 3 ∨ i = 4 ∨ i = 5 ∨ i = 6 ∨ i = 7) with rfl | rfl | rfl | rfl | rfl | rfl | rfl | rfl <;> simp [go_sem, ↓IntWalk.iteOmega, tcell, TabS.new]
        simp [go_sem, ↓IntWalk.iteOmega]
        simp <;> omega
        simp [go_sem, ↓IntWalk.iteOmega, HG2.out, hi, made1]
        simp [go_sem, ↓IntWalk.iteOmega]
        simp <;> omega
        simp [go_sem, ↓IntWalk.iteOmega, HP2.out, hi, made1]
        simp [go_sem, ↓IntWalk.iteOmega]
        simp <;> omega
        simp [go_sem, ↓IntWalk.iteOmega, HS2.out, hi, made1]
        simp [go_sem, ↓IntWalk.iteOmega]
      · intro K hK
        go_simp
        refine hK.out _ _ trivial ?_
        clear hK K
        refine wpTr_one rfl rfl (fun K hK => ?_)
        go_simp
        refine hK.out _ _ (fun _ => by simp [go_sem, ↓IntWalk.iteOmega, *]) ?_
        clear hK K
        repeat (first | (refine wpTr_qf (v := ?_) rfl rfl ?_ ?_; rotate_left; focus (intro w; go_simp; (try (with_reducible rfl)); done); try simp only [List.getElem_toArray, List.getElem_cons_zero, List.getElem_cons_succ, Act.put, List.setIfInBounds_toArray, List.set_cons_zero, List.set_cons_succ]) | (refine wpTr_qt (v := ?_) rfl rfl ?_ ?_; rotate_left; focus (intro w hSw; (try dsimp only at hSw); go_simp; (try (with_reducible rfl)); done); try simp only [List.getElem_toArray, List.getElem_cons_zero, List.getElem_cons_succ, Act.put, List.setIfInBounds_toArray, List.set_cons_zero, List.set_cons_succ]))
        refine wpTr_one rfl rfl (fun K hK => ?_)
        go_simp
        refine hK.out _ _ (fun h => by cases h) ?_
        clear hK K
        refine wpTr_one rfl rfl (fun K hK => ?_)
        go_simp
        refine hK.out _ _ (fun h => by cases h) ?_
        clear hK K
        refine wpTr_nil ?_
        refine NoPanic.normal ?_
        refine ⟨rfl, w.heap.size + 1 + 1, w.heap.size, w.heap.size + 1, w.heap.size + 1 + 1 + 1, ?_, ?_⟩
        rotate_left
        simp only [Act.put, List.setIfInBounds_toArray, List.set_cons_zero, List.set_cons_succ]
        refine ⟨by omega, by omega, by omega, by omega, by omega, by omega, by omega, by omega, by omega, by omega, by (repeat (first | with_reducible exact Below.rf _ | with_reducible exact World.below_ext _ _ | with_reducible refine Below.ex ?_ _ | with_reducible refine Below.al ?_ _ | with_reducible refine Below.setCell ?_ (by simp) _ | with_reducible refine Below.drew ?_)), ⟨?_, fun i hi => ?_, fun i hi => ?_⟩, ⟨?_, fun i hi => ?_, fun i hi => ?_⟩, ⟨?_, fun i hi => ?_, fun i hi => ?_⟩, ⟨?_, fun i hi => ?_, fun i hi => ?_⟩⟩
        simp
        rcases (by omega : i = 0 ∨ i = 1 ∨ i = 2 ∨ i = 3 ∨ i = 4 ∨ i = 5 ∨ i = 6 ∨ i = 7) with rfl | rfl | rfl | rfl | rfl | rfl | rfl | rfl <;> simp [go_sem, ↓IntWalk.iteOmega, tcell, TabS.new]
        simp [go_sem, ↓IntWalk.iteOmega]
        simp <;> omega
        simp [go_sem, ↓IntWalk.iteOmega, HG2.out, hi, made1]
        simp [go_sem, ↓IntWalk.iteOmega]
        simp <;> omega
        simp [go_sem, ↓IntWalk.iteOmega, HP2.out, hi, made1]
        simp [go_sem, ↓IntWalk.iteOmega]
        simp <;> omega
        simp [go_sem, ↓IntWalk.iteOmega, HS2.out, hi, made1]
        simp [go_sem, ↓IntWalk.iteOmega]
    · intro K hK
      go_simp
      refine hK.out _ _ trivial ?_
      clear hK K
      refine wpTr_two rfl rfl rfl rfl ?_ ?_
      · intro K hK
        go_simp
        refine hK.out _ _ trivial ?_
        clear hK K
        refine wpTr_one rfl rfl (fun K hK => ?_)
        go_simp
        refine hK.out _ _ (fun _ => by simp [go_sem, ↓IntWalk.iteOmega, *]) ?_
        clear hK K
        repeat (first | (refine wpTr_qf (v := ?_) rfl rfl ?_ ?_; rotate_left; focus (intro w; go_simp; (try (with_reducible rfl)); done); try simp only [List.getElem_toArray, List.getElem_cons_zero, List.getElem_cons_succ, Act.put, List.setIfInBounds_toArray, List.set_cons_zero, List.set_cons_succ]) | (refine wpTr_qt (v := ?_) rfl rfl ?_ ?_; rotate_left; focus (intro w hSw; (try dsimp only at hSw); go_simp; (try (with_reducible rfl)); done); try simp only [List.getElem_toArray, List.getElem_cons_zero, List.getElem_cons_succ, Act.put, List.setIfInBounds_toArray, List.set_cons_zero, List.set_cons_succ]))
        refine wpTr_one rfl rfl (fun K hK => ?_)
        go_simp
        refine hK.out _ _ (fun h => by cases h) ?_
        clear hK K
        refine wpTr_one rfl rfl (fun K hK => ?_)
        go_simp
        refine hK.out _ _ (fun h => by cases h) ?_
        clear hK K
        refine wpTr_nil ?_
        refine NoPanic.normal ?_
        refine ⟨rfl, w.heap.size + 1, w.heap.size + 1 + 1, w.heap.size, w.heap.size + 1 + 1 + 1, ?_, ?_⟩
        rotate_left
        simp only [Act.put, List.setIfInBounds_toArray, List.set_cons_zero, List.set_cons_succ]
        refine ⟨by omega, by omega, by omega, by omega, by omega, by omega, by omega, by omega, by omega, by omega, by (repeat (first | with_reducible exact Below.rf _ | with_reducible exact World.below_ext _ _ | with_reducible refine Below.ex ?_ _ | with_reducible refine Below.al ?_ _ | with_reducible refine Below.setCell ?_ (by simp) _ | with_reducible refine Below.drew ?_)), ⟨?_, fun i hi => ?_, fun i hi => ?_⟩, ⟨?_, fun i hi => ?_, fun i hi => ?_⟩, ⟨?_, fun i hi => ?_, fun i hi => ?_⟩, ⟨?_, fun i hi => ?_, fun i hi => ?_⟩⟩
        simp
        rcases (by omega : i = 0 ∨ i = 1 ∨ i = 2 ∨ i = 3 ∨ i = 4 ∨ i = 5 ∨ i = 6 ∨ i = 7) with rfl | rfl | rfl | rfl | rfl | rfl | rfl | rfl <;> simp [go_sem, ↓IntWalk.iteOmega, tcell, TabS.new]
        simp [go_sem, ↓IntWalk.iteOmega]
        simp <;> omega
        simp [go_sem, ↓IntWalk.iteOmega, HG2.out, hi, made1]
        simp [go_sem, ↓IntWalk.iteOmega]
        simp <;> omega
        simp [go_sem, ↓IntWalk.iteOmega, HP2.out, hi, made1]
        simp [go_sem, ↓IntWalk.iteOmega]
        simp <;> omega
        simp [go_sem, ↓IntWalk.iteOmega, HS2.out, hi, made1]
        simp [go_sem, ↓IntWalk.iteOmega]
      · intro K hK
        go_simp
        refine hK.out _ _ trivial ?_
        clear hK K
        refine wpTr_one rfl rfl (fun K hK => ?_)
        go_simp
        refine hK.out _ _ (fun _ => by simp [go_sem, ↓IntWalk.iteOmega, *]) ?_
        clear hK K
        repeat (first | (refine wpTr_qf (v := ?_) rfl rfl ?_ ?_; rotate_left; focus (intro w; go_simp; (try (with_reducible rfl)); done); try simp only [List.getElem_toArray, List.getElem_cons_zero, List.getElem_cons_succ, Act.put, List.setIfInBounds_toArray, List.set_cons_zero, List.set_cons_succ]) | (refine wpTr_qt (v := ?_) rfl rfl ?_ ?_; rotate_left; focus (intro w hSw; (try dsimp only at hSw); go_simp; (try (with_reducible rfl)); done); try simp only [List.getElem_toArray, List.getElem_cons_zero, List.getElem_cons_succ, Act.put, List.setIfInBounds_toArray, List.set_cons_zero, List.set_cons_succ]))
        refine wpTr_one rfl rfl (fun K hK => ?_)
        go_simp
        refine hK.out _ _ (fun h => by cases h) ?_
        clear hK K
        refine wpTr_one rfl rfl (fun K hK => ?_)
        go_simp
        refine hK.out _ _ (fun h => by cases h) ?_
        clear hK K
        refine wpTr_nil ?_
        refine NoPanic.normal ?_
        refine ⟨rfl, w.heap.size + 1 + 1, w.heap.size + 1, w.heap.size, w.heap.size + 1 + 1 + 1, ?_, ?_⟩
        rotate_left
        simp only [Act.put, List.setIfInBounds_toArray, List.set_cons_zero, List.set_cons_succ]
        refine ⟨by omega, by omega, by omega, by omega, by omega, by omega, by omega, by omega, by omega, by omega, by (repeat (first | with_reducible exact Below.rf _ | with_reducible exact World.below_ext _ _ | with_reducible refine Below.ex ?_ _ | with_reducible refine Below.al ?_ _ | with_reducible refine Below.setCell ?_ (by simp) _ | with_reducible refine Below.drew ?_)), ⟨?_, fun i hi => ?_, fun i hi => ?_⟩, ⟨?_, fun i hi => ?_, fun i hi => ?_⟩, ⟨?_, fun i hi => ?_, fun i hi => ?_⟩, ⟨?_, fun i hi => ?_, fun i hi => ?_⟩⟩
        simp
        rcases (by omega : i = 0 ∨ i = 1 ∨ i = 2 ∨ i = 3 ∨ i = 4 ∨ i = 5 ∨ i = 6 ∨ i = 7) with rfl | rfl | rfl | rfl | rfl | rfl | rfl | rfl <;> simp [go_sem, ↓IntWalk.iteOmega, tcell, TabS.new]
        simp [go_sem, ↓IntWalk.iteOmega]
        simp <;> omega
        simp [go_sem, ↓IntWalk.iteOmega, HG2.out, hi, made1]
        simp [go_sem, ↓IntWalk.iteOmega]
        simp <;> omega
        simp [go_sem, ↓IntWalk.iteOmega, HP2.out, hi, made1]
        simp [go_sem, ↓IntWalk.iteOmega]
        simp <;> omega
        simp [go_sem, ↓IntWalk.iteOmega, HS2.out, hi, made1]
        simp [go_sem, ↓IntWalk.iteOmega]
  · rintro a w3 ⟨g, p, s, t, HN, rfl⟩
    simp only [Act.put, List.setIfInBounds_toArray, List.set_cons_zero, List.set_cons_succ]
    have hN := hid HN
    have c6 : w3.cell? ⟨t, 6, none⟩ = some (.slice (some ⟨p, 0, none⟩) nr nr) := HN.bt.is 6 (by omega)
    have l1 := HN.bt.lt
    clear HN hp3 hs3 hg3 hg1 hp1 hs1
    go_wp2
    go_loopw [50] (fun x wr => ∃ (k : Nat) (pr : Nat → Nat), x = .int .i64 (k) ∧ k ≤ nr ∧ NewK nc nr cap k w wr g p s t pr) (fun x _ => nr - (intOf x).toNat)
    case atStart => exact ⟨0, fun _ => 0, rfl, by omega, hN.out.k0 _⟩
    case round =>
      clear c6 l1
      obtain ⟨k, pr, rfl, hk1, hK⟩ := hrel
      have HK := hid hK
      have c6 : wr.cell? ⟨t, 6, none⟩ = some (.slice (some ⟨p, 0, none⟩) nr nr) := hK.bt.is 6 (by omega)
      have l1 := hK.bt.lt
      have l2 := hK.bp.lt
      have n5 := hK.n5
      by_cases hlt : k < nr
      · have p1 := hK.bp.is k hlt
        have p2 := hK.bp.fz k hlt
        simp only [if_neg (Nat.lt_irrefl k)] at p1
        have s1 := hK.bl.size
        clear hK
        go_wp2
        refine wp_region_tree 7 (fun w' => w'.cell? ⟨t, 6, none⟩ = some (.slice (some ⟨p, 0, none⟩) nr nr)) (.q 0 false (.q 1 false (.q 2 false (.q 3 true (.q 4 false (.one 5 true (.q 6 false (.one 7 false .nil)))))))) (by kernel_rfl) (by kernel_rfl) (by kernel_rfl) ?_ ?_
        · simp [go_sem, ↓IntWalk.iteOmega, *]
        repeat (first | (refine wpTr_qf (v := ?_) rfl rfl ?_ ?_; rotate_left; focus (intro w; go_simp; (try (with_reducible rfl)); done); try simp only [List.getElem_toArray, List.getElem_cons_zero, List.getElem_cons_succ, Act.put, List.setIfInBounds_toArray, List.set_cons_zero, List.set_cons_succ]) | (refine wpTr_qt (v := ?_) rfl rfl ?_ ?_; rotate_left; focus (intro w hSw; (try dsimp only at hSw); go_simp; (try (with_reducible rfl)); done); try simp only [List.getElem_toArray, List.getElem_cons_zero, List.getElem_cons_succ, Act.put, List.setIfInBounds_toArray, List.set_cons_zero, List.set_cons_succ]))
        refine wpTr_one rfl rfl (fun K hK => ?_)
        go_simp
        refine hK.out _ _ (fun _ => by simp [go_sem, ↓IntWalk.iteOmega, *]) ?_
        clear hK K
        repeat (first | (refine wpTr_qf (v := ?_) rfl rfl ?_ ?_; rotate_left; focus (intro w; go_simp; (try (with_reducible rfl)); done); try simp only [List.getElem_toArray, List.getElem_cons_zero, List.getElem_cons_succ, Act.put, List.setIfInBounds_toArray, List.set_cons_zero, List.set_cons_succ]) | (refine wpTr_qt (v := ?_) rfl rfl ?_ ?_; rotate_left; focus (intro w hSw; (try dsimp only at hSw); go_simp; (try (with_reducible rfl)); done); try simp only [List.getElem_toArray, List.getElem_cons_zero, List.getElem_cons_succ, Act.put, List.setIfInBounds_toArray, List.set_cons_zero, List.set_cons_succ]))
        refine wpTr_one rfl rfl (fun K hK => ?_)
        go_simp
        refine hK.out _ _ (fun h => by cases h) ?_
        clear hK K
        refine wpTr_nil ?_
        refine NoPanic.normal ?_
        have k1 : (((wr.setCell ⟨p, k, none⟩ (.slice (some ⟨wr.heap.size, 0, none⟩) 256 256)).alloc (.cells Zr 99)).drew).cell? ⟨p, k, none⟩ = some (.slice (some ⟨wr.heap.size, 0, none⟩) 256 256) := by simp [go_sem, ↓IntWalk.iteOmega, *]
        have k2 : (((wr.setCell ⟨p, k, none⟩ (.slice (some ⟨wr.heap.size, 0, none⟩) 256 256)).alloc (.cells Zr 99)).drew).cell? ⟨t, 6, none⟩ = some (.slice (some ⟨p, 0, none⟩) nr nr) := by simp [go_sem, ↓IntWalk.iteOmega, *]
        have k3 : Blk (((wr.setCell ⟨p, k, none⟩ (.slice (some ⟨wr.heap.size, 0, none⟩) 256 256)).alloc (.cells Zr 99)).drew) wr.heap.size 256 (fun j => if j < 0 then .int .i16 (-1) else .int .i16 0) :=
          ⟨by simp, fun i hi => by simp [go_sem, ↓IntWalk.iteOmega, HR2.out, hi, made1], fun i hi => by simp [go_sem, ↓IntWalk.iteOmega]⟩
        obtain ⟨b, hb⟩ : ∃ b, b = wr.heap.size := ⟨_, rfl⟩
        rw [← hb] at k1 k2 k3 ⊢
        generalize hW : (((wr.setCell ⟨p, k, none⟩ (.slice (some ⟨b, 0, none⟩) 256 256)).alloc (.cells Zr 99)).drew) = w5 at k1 k2 k3 ⊢
        have HW := hid hW.symm
        have HB := hid hb
        have K3 := hid k3
        have l3 := k3.lt
        have nbt : t ≠ b := by omega
        have nbp : p ≠ b := by omega
        have l4 : t < w5.heap.size := by rw [← hW]; simp; omega
        have l5 : p < w5.heap.size := by rw [← hW]; simp; omega
        clear hW hb k3 p1 p2 c6 l1 l2
        go_wp2
        go_loopw [68] (fun x wz => ∃ i : Nat, x = .int .i64 (i) ∧ i ≤ 256 ∧ KeptBut b w5 wz ∧ Blk wz b 256 (fun j => if j < i then .int .i16 (-1) else .int .i16 0)) (fun x _ => 256 - (intOf x).toNat)
        case atStart => exact ⟨0, rfl, by omega, KeptBut.refl _ _, K3.out⟩
        case round =>
          obtain ⟨i, rfl, hi, hkb, hBk⟩ := hrel
          have HKB := hid hkb
          have HBK := hid hBk
          have z1 := hkb.cell (k := p) k l5 nbp
          rw [k1] at z1
          have z2 := hkb.cell (k := t) 6 l4 nbt
          rw [k2] at z2
          have l6 := hkb.size
          by_cases hi2 : i < 256
          · have y1 := hBk.is i hi2
            have y2 := hBk.fz i hi2
            simp only [if_neg (Nat.lt_irrefl i)] at y1
            clear hBk hkb k1 k2
            go_wp2
            go_roundw
            case rel =>
              refine ⟨i + 1, by go_num, by omega, HKB.out.set (Or.inl rfl) _, (HBK.out.set i _ hi2).congr (fun j hj => ?_)⟩
              unfold upd
              by_cases e : j = i
              · subst e; rw [if_pos rfl, if_pos (by omega)]
              · rw [if_neg e]
                by_cases e2 : j < i
                · simp only [if_pos e2, if_pos (show j < i + 1 by omega)]
                · simp only [if_neg e2, if_neg (show ¬ j < i + 1 by omega)]
            case measure => simp [intOf]; omega
          · have HF := hid (HK.out.step hlt b HB.out HW.out hkb (hBk.congr (fun j hj => by simp only [if_pos (show j < i by omega)])))
            clear hBk hkb k1 k2 z1 z2
            go_wp2
            go_roundw
            case rel => exact ⟨k + 1, _, by go_num, by omega, HF.out⟩
            case measure => simp [intOf]; omega
      · obtain rfl : k = nr := by omega
        obtain ⟨e1, e2⟩ := NewK.done hc hr hk lab hK
        have E1 := hid e1
        have E2 := hid e2
        clear hK e1 e2
        go_wp2
        refine bodyPost_ret (v := .tuple #[.pointer (some ⟨t, 0, none⟩), .int .u8 0]) (by simp [results, Tryz.results13, go_sem, ↓IntWalk.iteOmega]) rfl ?_
        exact ⟨_, _, rfl, E1.out, E2.out, HK.out.bl⟩
end Go.Proofs.Qxb6500717aGreat
