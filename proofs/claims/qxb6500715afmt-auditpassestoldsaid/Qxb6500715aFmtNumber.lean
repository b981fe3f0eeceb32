/-
  number: the cells' numbers, their places, the depot, the bays.
-/
import Derived.Test.Qxb6500715aFmtPaint
import Derived.Test.Qxb6500715aFmtKept
import Derived.Test.Qxb6500715aFmtReg
import Derived.Test.Qxb6500715aFmtScan
namespace Go.Proofs.Qxb6500715aFmt
open Go.RowKit
set_option linter.unusedSimpArgs false
set_option linter.unusedVariables false

theorem Hdr.of {w w' : World} {fb A S P D c pb cap n W : Nat} (h : Hdr w fb A S P D c pb cap n W) (hs : w.heap.size ≤ w'.heap.size) (hc : ∀ j, j < 9 → w'.cell? ⟨fb, j, none⟩ = w.cell? ⟨fb, j, none⟩) (hf : ∀ j, w'.frozen? ⟨fb, j, none⟩ = w.frozen? ⟨fb, j, none⟩) : Hdr w' fb A S P D c pb cap n W := by
  obtain ⟨hfb, hW, h0, h1, h2, h3, h4, h5, h6, h7, h8, fz⟩ := h
  exact ⟨by omega, hW, (hc 0 (by omega)).trans h0, (hc 1 (by omega)).trans h1, (hc 2 (by omega)).trans h2, (hc 3 (by omega)).trans h3, (hc 4 (by omega)).trans h4, (hc 5 (by omega)).trans h5, (hc 6 (by omega)).trans h6, (hc 7 (by omega)).trans h7, (hc 8 (by omega)).trans h8, fun j => (hf j).trans (fz j)⟩

/-- The places of the first m cells. -/
def posRow (kd : Nat → Int) (W L m : Nat) : List Value :=
  rowP (fun j => ((plc (fun t => drv (kd t)) L j / W : Nat) : Int)) (fun j => ((plc (fun t => drv (kd t)) L j % W : Nat) : Int)) m

theorem fld_ne (w : World) (fb i j : Nat) (v : Value) (h : i ≠ j) : (w.setCell ⟨fb, i, none⟩ v).cell? ⟨fb, j, none⟩ = w.cell? ⟨fb, j, none⟩ :=
  World.cell?_setCell_other _ _ _ _ (by simp only [ne_eq, Addr.mk.injEq, true_and, and_true]; exact h)
theorem fld_far (w : World) (b b' i j : Nat) (v : Value) (h : b ≠ b') : (w.setCell ⟨b, i, none⟩ v).cell? ⟨b', j, none⟩ = w.cell? ⟨b', j, none⟩ :=
  World.cell?_setCell_far _ _ _ _ h

theorem own_set {w : World} {base : Nat} {e : TypeId} {size : Nat} {v : Value} {n : Nat} {xs : List Value} (h : w.ownsRow base e size v n xs) (b o : Nat) (u : Value) (hb : b < base) : (w.setCell ⟨b, o, none⟩ u).ownsRow base e size v n xs := by
  obtain ⟨h1, h2⟩ := h
  refine ⟨h1, ?_⟩
  rcases h2 with h2 | ⟨g, cap, cur, hv, hg, hh, r⟩
  · exact Or.inl h2
  · exact Or.inr ⟨g, cap, cur, hv, hg, by rw [Below.heap_setCell _ _ _ _ (by simp; omega)]; exact hh, r⟩

/-- The world in the midst of the scan: the first i places are numbered. -/
structure NumAt (w wr : World) (fb A S P D c pb cap n W L kb i m : Nat) (kd : Nat → Int) (v : Value) (Y : Array Value) : Prop where
  hdr : Hdr wr fb A S P D c pb cap n W
  k9 : wr.cell? ⟨fb, 9, none⟩ = some (.slice (some ⟨kb, 0, none⟩) L L)
  k10 : wr.cell? ⟨fb, 10, none⟩ = some (.slice (some ⟨w.heap.size, 0, none⟩) L L)
  k11 : wr.cell? ⟨fb, 11, none⟩ = some v
  rest : ∀ j, 12 ≤ j → wr.cell? ⟨fb, j, none⟩ = w.cell? ⟨fb, j, none⟩
  hY : wr.heap[w.heap.size]? = some (.cells Y 50)
  ys : Y.size = L
  yv : ∀ j, j < i → Y[j]? = some (.int .i64 (if drv (kd j) then (cnt (fun t => drv (kd t)) j : Int) else -1))
  own : wr.ownsRow (w.heap.size + 1) 43 2 v m (posRow kd W L m)
  kept : KeptBut fb w wr

section
variable {w wr : World} {fb A S P D c pb cap n W L kb i m : Nat} {kd : Nat → Int} {v : Value} {Y : Array Value}

theorem NumAt.ex (h : NumAt w wr fb A S P D c pb cap n W L kb i m kd v Y) (z : World) : NumAt w (wr.ext z) fb A S P D c pb cap n W L kb i m kd v Y := by
  have hf := h.hdr.hfb
  have hs := h.kept.size
  have hc : ∀ j, (wr.ext z).cell? ⟨fb, j, none⟩ = wr.cell? ⟨fb, j, none⟩ := fun j => World.cell?_ext_old wr z ⟨fb, j, none⟩ hf
  have hY := h.hY
  exact ⟨h.hdr.of (by simp) (fun j _ => hc j) (fun j => World.frozen?_ext_old wr z ⟨fb, j, none⟩ hf), (hc 9).trans h.k9, (hc 10).trans h.k10, (hc 11).trans h.k11, fun j hj => (hc j).trans (h.rest j hj),
    by rw [World.block_ext _ _ _ (Array.getElem?_eq_some_iff.1 hY).1]; exact hY, h.ys, h.yv, ownsRow_ext h.own, h.kept.ex z⟩

/-- One number is written. -/
theorem NumAt.setId (h : NumAt w wr fb A S P D c pb cap n W L kb i m kd v Y) (hfb : fb < w.heap.size) (hi : i < L) (u : Value) (hu : u = .int .i64 (if drv (kd i) then (cnt (fun t => drv (kd t)) i : Int) else -1)) :
    NumAt w (wr.setCell ⟨w.heap.size, i, none⟩ u) fb A S P D c pb cap n W L kb (i + 1) m kd v (Y.setIfInBounds i u) := by
  have hc : ∀ j, (wr.setCell ⟨w.heap.size, i, none⟩ u).cell? ⟨fb, j, none⟩ = wr.cell? ⟨fb, j, none⟩ := fun j => fld_far _ _ _ _ _ _ (by omega)
  refine ⟨h.hdr.of (by simp) (fun j _ => hc j) (fun j => by simp), (hc 9).trans h.k9, (hc 10).trans h.k10, (hc 11).trans h.k11, fun j hj => (hc j).trans (h.rest j hj),
    heap_setCell_same wr _ i Y 50 u h.hY, by simpa using h.ys, fun j hj => ?_, own_set h.own _ _ _ (by omega), h.kept.set (Or.inr (Nat.le_refl _)) u⟩
  rw [Array.getElem?_setIfInBounds]
  by_cases hj2 : i = j
  · subst hj2; rw [if_pos rfl, if_pos (by rw [h.ys]; exact hi), hu]
  · rw [if_neg hj2]; exact h.yv j (by omega)

/-- One place is entered. -/
theorem NumAt.push (h : NumAt w wr fb A S P D c pb cap n W L kb i m kd v Y) (hfb : fb < w.heap.size) {w3 : World} {v3 : Value} {m3 : Nat} (hB : Below (w.heap.size + 1) wr w3) (ho : w3.ownsRow (w.heap.size + 1) 43 2 v3 m3 (posRow kd W L m3)) :
    NumAt w (w3.setCell ⟨fb, 11, none⟩ v3) fb A S P D c pb cap n W L kb i m3 kd v3 Y := by
  have hc : ∀ j, j ≠ 11 → (w3.setCell ⟨fb, 11, none⟩ v3).cell? ⟨fb, j, none⟩ = wr.cell? ⟨fb, j, none⟩ := fun j hj => (fld_ne _ _ _ _ _ (Ne.symm hj)).trans (World.cell?_of_block (hB.block fb (by omega)))
  refine ⟨h.hdr.of (by simpa using hB.size) (fun j hj => hc j (by omega)) (fun j => ?_), (hc 9 (by omega)).trans h.k9, (hc 10 (by omega)).trans h.k10, ?_, fun j hj => (hc j (by omega)).trans (h.rest j hj),
    ?_, h.ys, h.yv, own_set ho _ _ _ (by omega), (h.kept.below hB (by omega)).set (Or.inl rfl) v3⟩
  · have : w3.frozen? ⟨fb, j, none⟩ = wr.frozen? ⟨fb, j, none⟩ := World.frozen?_of_block (hB.block fb (by omega))
    simpa using this
  · exact World.cell?_setCell_same _ _ _ (u := v) ((World.cell?_of_block (hB.block fb (by omega))).trans h.k11)
  · rw [Below.heap_setCell _ _ _ _ (by simp; omega)]; exact (hB.block _ (by omega)).trans h.hY
end

/-- Whose bay a cell is, the first n robots' bays being entered. -/
def ownr (kd : Nat → Int) (W : Nat) (px py : Nat → Nat) : Nat → Nat → Int
  | 0, _ => -1
  | r + 1, c => if cnt (fun t => drv (kd t)) (px r * W + py r) = c then (r : Int) else ownr kd W px py r c

/-- The numbered floor. -/
structure Num (w : World) (fb W L N n c ib qb qc ab ob : Nat) (kd : Nat → Int) (px py : Nat → Nat) : Prop where
  hN : N = cnt (fun t => drv (kd t)) L
  i10 : w.cell? ⟨fb, 10, none⟩ = some (.slice (some ⟨ib, 0, none⟩) L L)
  i11 : w.cell? ⟨fb, 11, none⟩ = some (.slice (some ⟨qb, 0, none⟩) N qc)
  i12 : w.cell? ⟨fb, 12, none⟩ = some (.int .i64 (cnt (fun t => drv (kd t)) (W + c)))
  i13 : w.cell? ⟨fb, 13, none⟩ = some (.slice (some ⟨ab, 0, none⟩) n n)
  i14 : w.cell? ⟨fb, 14, none⟩ = some (.slice (some ⟨ob, 0, none⟩) N N)
  lt : ib < w.heap.size ∧ qb < w.heap.size ∧ ab < w.heap.size ∧ ob < w.heap.size
  qc : N ≤ qc
  ids : ∀ i, i < L → w.cell? ⟨ib, i, none⟩ = some (.int .i64 (if drv (kd i) then (cnt (fun t => drv (kd t)) i : Int) else -1))
  pos0 : ∀ j, j < N → w.cell? ⟨qb, 0 + j * 2, none⟩ = some (.int .i64 ((plc (fun t => drv (kd t)) L j / W : Nat)))
  pos1 : ∀ j, j < N → w.cell? ⟨qb, 0 + j * 2 + 1, none⟩ = some (.int .i64 ((plc (fun t => drv (kd t)) L j % W : Nat)))
  park : ∀ r, r < n → w.cell? ⟨ab, r, none⟩ = some (.int .i64 (cnt (fun t => drv (kd t)) (px r * W + py r)))
  own : ∀ j, j < N → w.cell? ⟨ob, j, none⟩ = some (.int .i64 (ownr kd W px py n j))

def NumPost (w w' : World) (fb A S P D c pb cap n W L kb : Nat) (kd : Nat → Int) (px py : Nat → Nat) : Prop :=
  Hdr w' fb A S P D c pb cap n W ∧ w'.cell? ⟨fb, 9, none⟩ = some (.slice (some ⟨kb, 0, none⟩) L L) ∧ (∀ j, 15 ≤ j → w'.cell? ⟨fb, j, none⟩ = w.cell? ⟨fb, j, none⟩) ∧ KeptBut fb w w' ∧
  ∃ N ib qb qc ab ob, (w.heap.size ≤ ib ∧ w.heap.size ≤ qb ∧ w.heap.size ≤ ab ∧ w.heap.size ≤ ob) ∧ Num w' fb W L N n c ib qb qc ab ob kd px py

set_option maxRecDepth 20000 in
set_option maxHeartbeats 2000000 in
theorem number_any (fb A S P D c pb cap n W L kb : Nat) (px py : Nat → Nat) (kd : Nat → Int) (v10 v12 v13 v14 : Value) (w : World) (hH : Hdr w fb A S P D c pb cap n W) (hL : L ≤ 384 ∧ W + c < L) (hWb : 3 ≤ W ∧ W ≤ 24) (hn : 1 ≤ n ∧ n ≤ 6) (hnc : n ≤ cap) (hpb : pb < w.heap.size) (hpf : fb ≠ pb)
    (hk9 : w.cell? ⟨fb, 9, none⟩ = some (.slice (some ⟨kb, 0, none⟩) L L)) (h10 : w.cell? ⟨fb, 10, none⟩ = some v10) (h11 : w.cell? ⟨fb, 11, none⟩ = some (.slice none 0 0)) (h12 : w.cell? ⟨fb, 12, none⟩ = some v12) (h13 : w.cell? ⟨fb, 13, none⟩ = some v13) (h14 : w.cell? ⟨fb, 14, none⟩ = some v14)
    (hkb : kb < w.heap.size) (hkf : fb ≠ kb) (hkd : ∀ i, i < L → w.cell? ⟨kb, i, none⟩ = some (.int .u8 (kd i)))
    (hd : drv (kd (W + c)) = true) (hbay : ∀ r, r < n → px r * W + py r < L ∧ drv (kd (px r * W + py r)) = true ∧ py r < W)
    (hc0 : ∀ i, i < n → w.cell? ⟨pb, 0 + i * 2, none⟩ = some (.int .i64 (px i))) (hc1 : ∀ i, i < n → w.cell? ⟨pb, 0 + i * 2 + 1, none⟩ = some (.int .i64 (py i))) :
    Calls Tryf.prog 51 #[.pointer (some ⟨fb, 0, none⟩)] w fun e w' => e = .returned (.tuple #[]) ∧ NumPost w w' fb A S P D c pb cap n W L kb kd px py := by
  have HH := hid hH
  obtain ⟨hfb, hW, h0, h1, h2, h3, h4, h5, h6, h7, h8, fz⟩ := hH
  have f10 := fz 10
  obtain ⟨Z, hZ, -, hmk⟩ := make_is (P := Tryf.prog) 52 50 (.int .i64 0) 1 8 Tryf.underlying52 (by kernel_rfl) L (by omega) (by omega)
  go_enter Tryf.func51, Tryf.ntmps51
  go_wp2
  go_loopw [22] (fun x wr => ∃ (i : Nat) (v : Value) (Y : Array Value), i ≤ L ∧ x = .int .i64 (i) ∧ NumAt w wr fb A S P D c pb cap n W L kb i (cnt (fun t => drv (kd t)) i) kd v Y) (fun x _ => L - (intOf x).toNat)
  case atStart =>
    refine ⟨0, .slice none 0 0, Z, Nat.zero_le _, rfl, ?_⟩
    have hc : ∀ j, j ≠ 10 → ((w.setCell ⟨fb, 10, none⟩ (.slice (some ⟨w.heap.size, 0, none⟩) L L)).alloc (.cells Z 50)).cell? ⟨fb, j, none⟩ = w.cell? ⟨fb, j, none⟩ := fun j hj => by
      rw [World.cell?_alloc_old _ _ _ (by simp; omega)]; exact fld_ne _ _ _ _ _ (Ne.symm hj)
    refine ⟨HH.out.of (by simp) (fun j hj => hc j (by omega)) (fun j => ?_), (hc 9 (by omega)).trans hk9, ?_, (hc 11 (by omega)).trans h11, fun j hj => hc j (by omega), ?_, by omega, fun j hj => by omega, ownsRow_nil, ((KeptBut.refl fb w).set (Or.inl rfl) _).al _⟩
    · rw [World.frozen?_alloc_old _ _ _ (by simp; omega)]; simp
    · rw [World.cell?_alloc_old _ _ _ (by simp; omega)]; exact World.cell?_setCell_same _ _ _ h10
    · have := (MapKept.heap_alloc (w.setCell ⟨fb, 10, none⟩ (.slice (some ⟨w.heap.size, 0, none⟩) L L)) (.cells Z 50)).1
      simpa using this
  case round =>
    obtain ⟨i, v, Y, hi, rfl, hN⟩ := hrel
    have HN := hid hN
    have HKD := hid hkd
    have hsz := hN.kept.size
    obtain ⟨⟨-, -, c0, c1, c2, c3, c4, c5, c6, c7, c8, fz1⟩, c9, c10, c11, rest, hY, ys, yv, own, kept⟩ := hN
    have g10 := fz1 10
    have g11 := fz1 11
    have hsz3 : w.heap.size < wr.heap.size := (Array.getElem?_eq_some_iff.1 hY).1
    clear hkd rest yv fz1 fz
    by_cases hlt : i < L
    · have ck : wr.cell? ⟨kb, i, none⟩ = some (.int .u8 (kd i)) := by rw [kept.cell i hkb (by omega)]; exact HKD.out i hlt
      have cY : wr.cell? ⟨w.heap.size, i, none⟩ = some Y[i] := by rw [cell_of_row wr w.heap.size i Y 50 (0, 0) hY]; exact Array.getElem?_eq_getElem (by omega)
      have fY : wr.frozen? ⟨w.heap.size, i, none⟩ = false := by simp [World.frozen?, hY]
      obtain ⟨y, hy⟩ : ∃ y, Y[i] = y := ⟨_, rfl⟩
      rw [hy] at cY
      clear hy hY own kept
      rcases Bool.eq_false_or_eq_true (drv (kd i)) with hdv | hdv
      · obtain ⟨ao, cp, rfl⟩ : ∃ ao cp, v = .slice ao (cnt (fun t => drv (kd t)) (i)) cp := by
          rcases HN.out.own.2 with ⟨h1, h2⟩ | ⟨g, cap, cur, h1, _⟩
          · exact ⟨none, 0, by rw [h2]; exact h1⟩
          · exact ⟨some ⟨g, 0, none⟩, cap, h1⟩
        go_wp2_with (go_at_call 19; refine (Calls.tf (drivable_any _ _) hdv).mono ?_; rintro e w' ⟨rfl, rfl⟩)
        first | with_reducible refine wp_region_tail_ext2 10 (by kernel_rfl) (by kernel_rfl) ?_ | refine wp_region_tail_ext 10 (by kernel_rfl) (by kernel_rfl) ?_
        simp only [List.take_succ_cons, List.take_zero, List.drop_succ_cons, List.drop_zero]
        repeat (go_big_quiet_step (fail))
        refine wpQuiet_nil ?_
        rintro _ ⟨z, rfl⟩
        go_wp2
        have hN2 := (HN.out.setId hfb hlt (.int .i64 ((cnt (fun t => drv (kd t)) (i)))) (by rw [if_pos hdv])).ex z
        generalize hX : World.ext (World.setCell _ _ _) z = X at *
        clear hX c0 c1 c2 c3 c4 c5 c6 c7 c8 c9 c10 c11 g10 g11 cY fY ck HN
        have HN2 := hid hN2
        have hsz2 := hN2.kept.size
        have hsz4 : w.heap.size < X.heap.size := (Array.getElem?_eq_some_iff.1 hN2.hY).1
        obtain ⟨⟨-, -, c0, c1, c2, c3, c4, c5, c6, c7, c8, fz1⟩, c9, c10, c11, rest, hY, ys2, yv, own, kept⟩ := hN2
        have g11 := fz1 11
        have HO := hid own
        have hcn : (cnt (fun t => drv (kd t)) (i)) ≤ i := cnt_le _ i
        have hsx : fb < X.heap.size := by omega
        have hsx2 : ¬ fb = X.heap.size := by omega
        obtain ⟨iq, hiq⟩ : ∃ iq, iq = i / W := ⟨_, rfl⟩
        obtain ⟨ir, hir⟩ : ∃ ir, ir = i % W := ⟨_, rfl⟩
        have e1 : (i : Int) / (W : Int) = (iq : Int) := by rw [hiq]; exact (Int.natCast_ediv _ _).symm
        have e2 : (i : Int) % (W : Int) = (ir : Int) := by rw [hir]; exact (Int.natCast_emod _ _).symm
        have e3 : (i : Int).tdiv (W : Int) = (iq : Int) := by rw [hiq]; exact (Int.ofNat_tdiv _ _).symm
        have e4 : (i : Int).tmod (W : Int) = (ir : Int) := by rw [hir]; exact (Int.ofNat_tmod _ _).symm
        have hq1 : iq ≤ 384 := by rw [hiq]; exact Nat.le_trans (Nat.div_le_self _ _) (by omega)
        have hq2 : ir ≤ 384 := by rw [hir]; exact Nat.le_trans (Nat.mod_le _ _) (by omega)
        have hw0 : ¬ (W : Int) = 0 := by omega
        have hw1 : ¬ W = 0 := by omega
        have hw2 : ((W : Int) == 0) = false := by simp; omega
        have e5 : IntKind.i64.wrap ((i : Int).tdiv (W : Int)) = (iq : Int) := by rw [e3]; exact wrapped iq (by omega)
        have e6 : IntKind.i64.wrap ((i : Int).tmod (W : Int)) = (ir : Int) := by rw [e4]; exact wrapped ir (by omega)
        have hwq : IntKind.i64.wrap (iq : Int) = iq := wrapped iq (by omega)
        have hwr : IntKind.i64.wrap (ir : Int) = ir := wrapped ir (by omega)
        have HQ := hid hiq
        have HR := hid hir
        clear rest yv fz1 hY own kept hW hiq hir
        refine wp_region_mid 18 20 (fun w' => w'.cell? ⟨fb, 7, none⟩ = some (.int .i64 (W)) ∧ w'.cell? ⟨fb, 11, none⟩ = some (.slice ao (cnt (fun t => drv (kd t)) (i)) cp)) (by kernel_rfl) (by kernel_rfl) (by kernel_rfl) (by kernel_rfl) (by kernel_rfl) (by kernel_rfl) ?_ ?_
        · simp [go_sem, ↓IntWalk.iteOmega, *]
        simp only [List.take_succ_cons, List.take_zero, List.drop_succ_cons, List.drop_zero]
        repeat (refine wpHeld_step (v := ?_) rfl ?_ ?_; rotate_left; focus (intro w hSw; (try dsimp only at hSw); go_simp; (try (with_reducible rfl)); done); try simp only [Act.put, List.setIfInBounds_toArray, List.set_cons_zero, List.set_cons_succ])
        refine wpHeld_nil ?_
        refine wpMid_stepK rfl (fun K hK => ?_)
        go_simp
        refine hK.out _ _ (by simp [go_sem, ↓IntWalk.iteOmega, *]) ?_
        clear hK K
        refine mid_app rfl _ _ 44 rfl (w.heap.size + 1) 43 (.agg #[.int .i64 (0), .int .i64 (0)]) 2 16 Tryf.underlying44 (by kernel_rfl) rfl (by decide) _ (cnt (fun t => drv (kd t)) (i)) (posRow kd W L (cnt (fun t => drv (kd t)) (i))) rfl (ownsRow_alloc HO.out _) _ 0 1 1 [.int .i64 (iq), .int .i64 (ir)] rfl rfl ?_ (by simp [Value.oneCell']) (by omega) (by omega) (by (first | omega | (simp only [World.size_ext, World.size_alloc, World.size_setCell, World.size_drew, Array.size_append]; done) | (simp only [World.size_ext, World.size_alloc, World.size_setCell, World.size_drew, Array.size_append]; omega))) ?_
        · intro j u hj; simp [go_sem, ↓IntWalk.iteOmega]; simpa using hj
        intro v3 w3 hown3 hb3
        obtain ⟨gb3, cp3, rfl, -, -, -, -⟩ := ownsRow_cells2 hown3 (by omega)
        have t7 : w3.cell? ⟨fb, 7, none⟩ = some (.int .i64 (W)) := by rw [World.cell?_of_block (hb3.block fb (by omega))]; simp [go_sem, ↓IntWalk.iteOmega, *]
        have t11 : w3.cell? ⟨fb, 11, none⟩ = some (.slice ao (cnt (fun t => drv (kd t)) (i)) cp) := by rw [World.cell?_of_block (hb3.block fb (by omega))]; simp [go_sem, ↓IntWalk.iteOmega, *]
        have t11f : w3.frozen? ⟨fb, 11, none⟩ = false := by rw [World.frozen?_of_block (hb3.block fb (by omega))]; simp [go_sem, ↓IntWalk.iteOmega, *]
        refine ⟨⟨t7, t11⟩, wpMid_zero ?_⟩
        have HO3 := hid hown3
        have HB3 := hid hb3
        clear hown3 hb3
        go_wp2
        refine NoPanic.normal ?_
        go_wp2
        go_roundw
        case rel =>
          have hB : Below (w.heap.size + 1) X w3 := Below.trans (Below.alloc (Below.refl _ X).drew (by show w.heap.size + 1 ≤ X.heap.size; omega) _) HB3.out
          have ho : w3.ownsRow (w.heap.size + 1) 43 2 (.slice (some ⟨gb3, 0, none⟩) ((cnt (fun t => drv (kd t)) (i)) + 1) cp3) ((cnt (fun t => drv (kd t)) (i)) + 1) (posRow kd W L ((cnt (fun t => drv (kd t)) (i)) + 1)) := by
            have := HO3.out
            unfold posRow at this ⊢
            simp only [rowP]
            rw [plc_cnt (fun t => drv (kd t)) hlt hdv, ← HQ.out, ← HR.out]
            exact this
          have := HN2.out.push hfb hB ho
          exact ⟨i + 1, _, _, by omega, by go_num, by simpa [cnt, hdv] using this⟩
        case measure => simp [intOf]; omega
      · go_wp2_with (go_at_call 19; refine (Calls.tf (drivable_any _ _) hdv).mono ?_; rintro e w' ⟨rfl, rfl⟩)
        go_roundw
        case rel => exact ⟨i + 1, v, _, by omega, by go_num, by have := HN.out.setId hfb hlt (.int .i64 (-1)) (by rw [if_neg (by simp [hdv])]); simpa [cnt, hdv] using this⟩
        case measure => simp [intOf]; omega
    · have hiL : i = L := by omega
      have hN1 : (cnt (fun t => drv (kd t)) (W + c)) < (cnt (fun t => drv (kd t)) (i)) := by rw [hiL]; exact cnt_lt (fun t => drv (kd t)) hL.2 hd
      obtain ⟨qb, qc, rfl, hqc, hqb, hqb2, hpos⟩ := ownsRow_cells2 HN.out.own (by omega)
      have HPOS := hid hpos
      have yd := HN.out.yv (W + c) (by omega)
      rw [if_pos hd] at yd
      have cd : wr.cell? ⟨w.heap.size, W + c, none⟩ = some (.int .i64 ((cnt (fun t => drv (kd t)) (W + c)))) := by rw [cell_of_row wr w.heap.size (W + c) Y 50 (0, 0) hY]; exact yd
      have g12 : wr.frozen? ⟨fb, 12, none⟩ = false := HN.out.hdr.fz 12
      have c12 : wr.cell? ⟨fb, 12, none⟩ = some v12 := (HN.out.rest 12 (by omega)).trans h12
      have c13 : wr.cell? ⟨fb, 13, none⟩ = some v13 := (HN.out.rest 13 (by omega)).trans h13
      have c14 : wr.cell? ⟨fb, 14, none⟩ = some v14 := (HN.out.rest 14 (by omega)).trans h14
      have g13 : wr.frozen? ⟨fb, 13, none⟩ = false := HN.out.hdr.fz 13
      have g14 : wr.frozen? ⟨fb, 14, none⟩ = false := HN.out.hdr.fz 14
      have HIL := hid hiL
      clear hpos yd hY own kept hW hiL
      have e1 : (1 : Int) * (W : Int) = W := Int.one_mul _
      have hNL : (cnt (fun t => drv (kd t)) (i)) ≤ i := cnt_le _ i
      obtain ⟨Z2, hZ2, -, hmk2⟩ := make_is (P := Tryf.prog) 53 3 (.int .i64 0) 1 8 Tryf.underlying53 (by kernel_rfl) (cnt (fun t => drv (kd t)) (i)) (by omega) (by omega)
      obtain ⟨Z3, hZ3, -, hmk3⟩ := make_is (P := Tryf.prog) 52 50 (.int .i64 0) 1 8 Tryf.underlying52 (by kernel_rfl) n (by omega) (by omega)
      generalize hNe : (cnt (fun t => drv (kd t)) (i)) = N at *
      go_wp2
      first | with_reducible refine wp_region_tail_ext2 14 (by kernel_rfl) (by kernel_rfl) ?_ | refine wp_region_tail_ext 14 (by kernel_rfl) (by kernel_rfl) ?_
      simp only [List.take_succ_cons, List.take_zero, List.drop_succ_cons, List.drop_zero]
      repeat (go_big_quiet_step ((go_at_call 21; exact Calls.ext_of (index_any fb W 1 _ _ (by (first | omega | (simp only [World.size_ext, World.size_alloc, World.size_setCell, World.size_drew, Array.size_append]; done) | (simp only [World.size_ext, World.size_alloc, World.size_setCell, World.size_drew, Array.size_append]; omega))) (by simp [go_sem, ↓IntWalk.iteOmega]; exact c7) (by omega) (by omega)))))
      refine wpQuiet_nil ?_
      rintro _ ⟨z, rfl⟩
      go_wp2
      generalize hob : wr.heap.size + z.heap.size = ob at *
      generalize hT : World.ext (World.setCell (World.setCell wr _ _) _ _) z = T at *
      have hTs : T.heap.size = ob := by rw [← hT, ← hob]; simp
      have HTK : Hid (KeptBut fb w T) := by rw [← hT]; exact ((HN.out.kept.set (Or.inl rfl) _).set (Or.inl rfl) _).ex _
      have HTF : Hid (∀ j, j ≠ 12 → j ≠ 14 → T.cell? ⟨fb, j, none⟩ = wr.cell? ⟨fb, j, none⟩) := fun j h1 h2 => by
        rw [← hT, World.cell?_ext_old _ _ _ (by simp; omega), fld_ne _ _ _ _ _ (Ne.symm h2), fld_ne _ _ _ _ _ (Ne.symm h1)]
      have HTB : Hid (∀ b o, b < wr.heap.size → b ≠ fb → T.cell? ⟨b, o, none⟩ = wr.cell? ⟨b, o, none⟩) := fun b o h1 h2 => by
        rw [← hT, World.cell?_ext_old _ _ _ (by simpa using h1), fld_far _ _ _ _ _ _ (Ne.symm h2), fld_far _ _ _ _ _ _ (Ne.symm h2)]
      have HTZ : Hid (∀ j, T.frozen? ⟨fb, j, none⟩ = false) := fun j => by
        rw [← hT, World.frozen?_ext_old _ _ _ (by simp; omega)]; simpa using HN.out.hdr.fz j
      have T12 : T.cell? ⟨fb, 12, none⟩ = some (.int .i64 ((cnt (fun t => drv (kd t)) (W + c)))) := by
        rw [← hT, World.cell?_ext_old _ _ _ (by simp; omega), fld_ne _ _ _ _ _ (by omega)]; exact World.cell?_setCell_same _ _ _ c12
      have T14 : T.cell? ⟨fb, 14, none⟩ = some (.slice (some ⟨ob, 0, none⟩) N N) := by
        rw [← hT, World.cell?_ext_old _ _ _ (by simp; omega)]; exact World.cell?_setCell_same _ _ _ (u := v14) (by rw [fld_ne _ _ _ _ _ (by omega)]; exact c14)
      have T13 : T.cell? ⟨fb, 13, none⟩ = some v13 := (HTF.out 13 (by omega) (by omega)).trans c13
      have T6 := (HTF.out 6 (by omega) (by omega)).trans c6
      have hfT : fb < T.heap.size := by omega
      have TZ13 := HTZ.out 13
      clear hT hmk hmk2 c0 c1 c2 c3 c4 c5 c6 c8 c12 c13 c14 cd g12 g13 g14 g10 g11
      go_loopw [100] (fun x w' => ∃ (k : Nat) (Y : Array Value), k ≤ N ∧ x = .int .i64 (k) ∧ Y.size = N ∧ (∀ j, j < k → Y[j]? = some (.int .i64 (-1))) ∧ w' = T.alloc (.cells Y 3)) (fun x _ => N - (intOf x).toNat)
      case atStart => exact ⟨0, Z2, Nat.zero_le _, rfl, by omega, fun j hj => by omega, rfl⟩
      case round =>
        obtain ⟨k, Y, hk, rfl, hYs, hyk, rfl⟩ := hrel
        have HY := hid hyk
        clear hyk
        by_cases hlk : k < N
        · have cy : Y[k]? = some Y[k] := Array.getElem?_eq_getElem (by omega)
          obtain ⟨y, hy⟩ : ∃ y, Y[k] = y := ⟨_, rfl⟩
          rw [hy] at cy
          clear hy
          go_wp2
          go_roundw
          case rel =>
            refine ⟨k + 1, _, by omega, by go_num, ?_, ?_, rfl⟩
            · simpa using hYs
            · intro j hj
              rw [Array.getElem?_setIfInBounds]
              by_cases hjk : k = j
              · rw [if_pos hjk, if_pos (by omega)]
              · rw [if_neg hjk]; exact HY.out j (by omega)
          case measure => simp [intOf]; omega
        · obtain rfl : k = N := by omega
          go_wp2
          generalize hT3 : World.setCell T ⟨fb, 13, none⟩ _ = T3 at *
          have hs3 : T3.heap.size = ob := by rw [← hT3]; simpa using hTs
          have HK3 : Hid (KeptBut fb w T3) := by rw [← hT3]; exact HTK.out.set (Or.inl rfl) _
          have HF3 : Hid (∀ j, j ≠ 13 → T3.cell? ⟨fb, j, none⟩ = T.cell? ⟨fb, j, none⟩) := fun j h1 => by rw [← hT3]; exact fld_ne _ _ _ _ _ (Ne.symm h1)
          have HB3 : Hid (∀ b o, b ≠ fb → T3.cell? ⟨b, o, none⟩ = T.cell? ⟨b, o, none⟩) := fun b o h1 => by rw [← hT3]; exact fld_far _ _ _ _ _ _ (Ne.symm h1)
          have HZ3 : Hid (∀ j, T3.frozen? ⟨fb, j, none⟩ = false) := fun j => by rw [← hT3]; simpa using HTZ.out j
          have t13 : T3.cell? ⟨fb, 13, none⟩ = some (.slice (some ⟨ob + 1, 0, none⟩) n n) := by rw [← hT3]; exact World.cell?_setCell_same _ _ _ T13
          have t7 := (HF3.out 7 (by omega)).trans ((HTF.out 7 (by omega) (by omega)).trans c7)
          have t10 := (HF3.out 10 (by omega)).trans ((HTF.out 10 (by omega) (by omega)).trans c10)
          have t14 := (HF3.out 14 (by omega)).trans T14
          have HC0 : Hid (∀ i, i < n → T3.cell? ⟨pb, i * 2, none⟩ = some (.int .i64 (px i))) := fun i hi => by
            rw [HK3.out.cell _ hpb (by omega)]; have := hc0 i hi; rwa [Nat.zero_add] at this
          have HC1 : Hid (∀ i, i < n → T3.cell? ⟨pb, i * 2 + 1, none⟩ = some (.int .i64 (py i))) := fun i hi => by
            rw [HK3.out.cell _ hpb (by omega)]; have := hc1 i hi; rwa [Nat.zero_add] at this
          have HID : Hid (∀ j, j < L → T3.cell? ⟨w.heap.size, j, none⟩ = some (.int .i64 (if drv (kd j) then ((cnt (fun t => drv (kd t)) (j)) : Int) else -1))) := fun j hj => by
            rw [HB3.out _ _ (by omega), HTB.out _ _ hsz3 (by omega), cell_of_row wr w.heap.size j _ 50 (0, 0) HN.out.hY]; exact HN.out.yv j (by rw [HIL.out]; exact hj)
          have hfs : fb < T3.heap.size := by omega
          have hps : pb < T3.heap.size := by omega
          have hws : w.heap.size < T3.heap.size := by omega
          have HOB : Hid (∀ j, j < k → Y[j]? = some (.int .i64 (ownr kd W px py 0 j))) := HY.out
          have HBAY := hid hbay
          clear hT3 HY hmk3 hc0 hc1 hbay T14 T13 T6 TZ13
          go_loopw [126] (fun x w' => ∃ (m : Nat) (Y Z : Array Value), m ≤ n ∧ x = .int .i64 (m) ∧ Y.size = k ∧ Z.size = n ∧ (∀ j, j < k → Y[j]? = some (.int .i64 (ownr kd W px py m j))) ∧ (∀ j, j < m → Z[j]? = some (.int .i64 ((cnt (fun t => drv (kd t)) (px j * W + py j))))) ∧ ∃ z, w' = ((T3.alloc (.cells Y 3)).alloc (.cells Z 50)).ext z) (fun x _ => n - (intOf x).toNat)
          case atStart => exact ⟨0, Y, Z3, Nat.zero_le _, rfl, hYs, by omega, HOB.out, fun j hj => by omega, (Below.rf _).is_ext⟩
          case round =>
            clear HOB hYs
            obtain ⟨m, Y, Z, hm, rfl, hYs, hZs, hyk, hzk, z, rfl⟩ := hrel
            have HY := hid hyk
            have HZ := hid hzk
            clear hyk hzk
            by_cases hlm : m < n
            · obtain ⟨hb1, hb2, hb3⟩ := HBAY.out m hlm
              have d0 := HC0.out m hlm
              have d1 := HC1.out m hlm
              obtain ⟨pw, hpw⟩ : ∃ pw, pw = px m * W := ⟨_, rfl⟩
              have e2 : (px m : Int) * (W : Int) = pw := by rw [hpw]; exact (Int.natCast_mul _ _).symm
              have did := HID.out (px m * W + py m) hb1
              rw [if_pos hb2, ← hpw] at did
              obtain ⟨cc, hcc⟩ : ∃ cc, cc = (cnt (fun t => drv (kd t)) (pw + py m)) := ⟨_, rfl⟩
              rw [← hcc] at did
              have hck : cc < k := by rw [hcc, ← hNe, HIL.out, hpw]; exact cnt_lt (fun t => drv (kd t)) hb1 hb2
              have hpl : pw + py m < L := by rw [hpw]; exact hb1
              have HPW := hid hpw
              have HCC := hid hcc
              clear hpw hcc hb1
              have cy : Y[cc]? = some Y[cc] := Array.getElem?_eq_getElem (by omega)
              have cz : Z[m]? = some Z[m] := Array.getElem?_eq_getElem (by omega)
              obtain ⟨y, hy⟩ : ∃ y, Y[cc] = y := ⟨_, rfl⟩
              obtain ⟨zz, hz⟩ : ∃ y, Z[m] = y := ⟨_, rfl⟩
              rw [hy] at cy
              rw [hz] at cz
              clear hy hz
              go_wp2
              first | with_reducible refine wp_region_ext2 (by kernel_rfl) (by kernel_rfl) ?_ | refine wp_region_ext (by kernel_rfl) (by kernel_rfl) ?_
              repeat (go_big_quiet_step ((go_at_call 21; exact Calls.ext_of (index_any fb W (px m) _ _ (by (first | omega | (simp only [World.size_ext, World.size_alloc, World.size_setCell, World.size_drew, Array.size_append]; done) | (simp only [World.size_ext, World.size_alloc, World.size_setCell, World.size_drew, Array.size_append]; omega))) (by simp [go_sem, ↓IntWalk.iteOmega]; exact t7) (by omega) (by omega)))))
              refine wpQuiet_nil ?_
              rintro _ ⟨z, rfl⟩
              go_wp2
              go_roundw
              case rel =>
                refine ⟨m + 1, _, _, by omega, by go_num, ?_, ?_, ?_, ?_, (((World.below_ext _ _).al _).ex _).is_ext⟩
                · simpa using hYs
                · simpa using hZs
                · intro j hj
                  rw [Array.getElem?_setIfInBounds]
                  simp only [ownr]
                  rw [← HPW.out, ← HCC.out]
                  by_cases hjc : cc = j
                  · rw [if_pos hjc, if_pos (by omega), if_pos hjc]
                  · rw [if_neg hjc, if_neg hjc]; exact HY.out j hj
                · intro j hj
                  rw [Array.getElem?_setIfInBounds]
                  by_cases hjm : m = j
                  · subst hjm
                    rw [if_pos rfl, if_pos (by omega), HCC.out, HPW.out]
                  · rw [if_neg hjm]; exact HZ.out j (by omega)
              case measure => simp [intOf]; omega
            · obtain rfl : m = n := by omega
              go_wp2
              go_end0
              have hF : ∀ b o, b < T3.heap.size → (((T3.alloc (.cells Y 3)).alloc (.cells Z 50)).ext z).cell? ⟨b, o, none⟩ = T3.cell? ⟨b, o, none⟩ := fun b o h => by
                rw [World.cell?_ext_old _ _ _ (by simp; omega), World.cell?_alloc_old _ _ _ (by simp; omega), World.cell?_alloc_old _ _ _ (by simp; omega)]
              have hFz : ∀ j, (((T3.alloc (.cells Y 3)).alloc (.cells Z 50)).ext z).frozen? ⟨fb, j, none⟩ = false := fun j => by
                rw [World.frozen?_ext_old _ _ _ (by simp; omega), World.frozen?_alloc_old _ _ _ (by simp; omega), World.frozen?_alloc_old _ _ _ (by simp; omega)]; exact HZ3.out j
              have hFf : ∀ j, j ≠ 12 → j ≠ 13 → j ≠ 14 → (((T3.alloc (.cells Y 3)).alloc (.cells Z 50)).ext z).cell? ⟨fb, j, none⟩ = wr.cell? ⟨fb, j, none⟩ := fun j h1 h2 h3 => by
                rw [hF _ _ hfs, HF3.out j h2, HTF.out j h1 h3]
              have hFb : ∀ b o, b < wr.heap.size → b ≠ fb → (((T3.alloc (.cells Y 3)).alloc (.cells Z 50)).ext z).cell? ⟨b, o, none⟩ = wr.cell? ⟨b, o, none⟩ := fun b o h1 h2 => by
                rw [hF _ _ (by omega), HB3.out _ _ h2, HTB.out _ _ h1 h2]
              refine ⟨rfl, HN.out.hdr.of (by simp; omega) (fun j hj => hFf j (by omega) (by omega) (by omega)) (fun j => (hFz j).trans (HN.out.hdr.fz j).symm), (hFf 9 (by omega) (by omega) (by omega)).trans c9, fun j hj => (hFf j (by omega) (by omega) (by omega)).trans (HN.out.rest j (by omega)),
                ((HK3.out.al _).al _).ex _, k, w.heap.size, qb, qc, ob + 1, ob, ⟨by omega, by omega, by omega, by omega⟩, ?_⟩
              exact {
                hN := by rw [← hNe, HIL.out]
                i10 := (hFf 10 (by omega) (by omega) (by omega)).trans c10
                i11 := (hFf 11 (by omega) (by omega) (by omega)).trans c11
                i12 := by rw [hF _ _ hfs, HF3.out 12 (by omega)]; exact T12
                i13 := by rw [hF _ _ hfs]; exact t13
                i14 := by rw [hF _ _ hfs]; exact t14
                lt := ⟨by simp; omega, by simp; omega, by simp; omega, by simp; omega⟩
                qc := hqc
                ids := fun j hj => by rw [hF _ _ hws]; exact HID.out j hj
                pos0 := fun j hj => by rw [hFb _ _ hqb2 (by omega), Nat.zero_add]; exact HPOS.out _ _ (rowP_get _ _ k j hj).1
                pos1 := fun j hj => by rw [hFb _ _ hqb2 (by omega), Nat.zero_add]; exact HPOS.out _ _ (rowP_get _ _ k j hj).2
                park := fun r hr => by
                  rw [World.cell?_ext_old _ _ _ (by simp; omega), World.cell?_alloc_at _ _ _ _ (by simp; omega)]; exact HZ.out r hr
                own := fun j hj => by
                  rw [World.cell?_ext_old _ _ _ (by simp; omega), World.cell?_alloc_old _ _ _ (by simp; omega), World.cell?_alloc_at _ _ _ _ (by omega)]; exact HY.out j hj }
end Go.Proofs.Qxb6500715aFmt
