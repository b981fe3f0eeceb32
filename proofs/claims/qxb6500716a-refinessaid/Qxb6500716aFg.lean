/-
  An operation's goals, and its request.
-/
import Derived.Test.Qxb6500716aFr
namespace Go.Proofs.Qxb6500716a
open Go.RowKit Go.Maps
set_option linter.unusedSimpArgs false
set_option linter.unusedVariables false
set_option maxRecDepth 20000
set_option maxHeartbeats 4000000

def gls : List Int → List (Int × Int)
  | a :: b :: l => (a, b) :: gls l
  | _ => []
theorem gls_len : ∀ l : List Int, (gls l).length = l.length / 2
  | [] => rfl
  | [_] => by simp [gls]
  | a :: b :: l => by simp [gls, gls_len l]; omega
theorem gls_at : ∀ (l : List Int) (j : Nat) (x y : Int), l[2 * j]? = some x → l[2 * j + 1]? = some y → (gls l)[j]? = some (x, y)
  | [], j, x, y, h, _ => by simp at h
  | [a], j, x, y, h, h2 => by
    cases j with
    | zero => simp at h2
    | succ j => simp at h2
  | a :: b :: l, j, x, y, h, h2 => by
    cases j with
    | zero => simp at h h2; simp [gls, h, h2]
    | succ j =>
      have e1 : 2 * (j + 1) = 2 * j + 2 := by omega
      rw [e1] at h h2
      have e2 : 2 * j + 2 + 1 = 2 * j + 1 + 2 := by omega
      rw [e2] at h2
      simp [gls]
      exact gls_at l j x y (by simpa using h) (by simpa using h2)
theorem gls_mem : ∀ (l : List Int) (p : Int × Int), p ∈ gls l → p.1 ∈ l ∧ p.2 ∈ l
  | [], p, h => by simp [gls] at h
  | [_], p, h => by simp [gls] at h
  | a :: b :: l, p, h => by
    simp [gls] at h
    rcases h with rfl | h
    · simp
    · have := gls_mem l p h
      simp [this]
/-- A list of goals in memory, to be read. -/
structure GAt (w : World) (lab : Nat → Nat) (v : Value) (gl : List (Int × Int)) : Prop where
  ex : ∃ ao cap, v = .slice ao gl.length cap ∧ gl.length ≤ cap
  len : gl.length ≤ 65536
  i64 : ∀ p, p ∈ gl → I64 p.1 ∧ I64 p.2
  row : ∀ (j : Nat) (p : Int × Int), gl[j]? = some p → ∃ b n cap, v = .slice (some ⟨b, 0, none⟩) n cap ∧ b < w.heap.size ∧ (lab b = 0 ∨ 10 ≤ lab b) ∧ w.cell? ⟨b, j * 2, none⟩ = some (.int .i64 (p.1)) ∧ w.cell? ⟨b, j * 2 + 1, none⟩ = some (.int .i64 (p.2))
theorem GAt.keptL {w w' : World} {lab : Nat → Nat} {A : Nat → Prop} {v : Value} {l : List (Int × Int)} (h : GAt w lab v l) (hk : KeptL lab A w w') (hA : ∀ x, A x → 0 < x ∧ x < 10) : GAt w' lab v l := by
  refine ⟨h.ex, h.len, h.i64, fun j c hj => ?_⟩
  obtain ⟨b, n, cap, h1, h2, h3, h4, h5⟩ := h.row j c hj
  have hn : ¬ A (lab b) := fun hx => by have := hA _ hx; omega
  exact ⟨b, n, cap, h1, Nat.lt_of_lt_of_le h2 hk.size, h3, (hk.cell _ h2 hn).trans h4, (hk.cell _ h2 hn).trans h5⟩
theorem GAt.relab {w : World} {lab lab' : Nat → Nat} {v : Value} {l : List (Int × Int)} (h : GAt w lab v l) (hl : ∀ b, b < w.heap.size → (lab b = 0 ∨ 10 ≤ lab b) → (lab' b = 0 ∨ 10 ≤ lab' b)) : GAt w lab' v l := by
  refine ⟨h.ex, h.len, h.i64, fun j c hj => ?_⟩
  obtain ⟨b, n, cap, h1, h2, h3, h4⟩ := h.row j c hj
  exact ⟨b, n, cap, h1, h2, hl b h2 h3, h4⟩
theorem GAt.below {w w' : World} {lab : Nat → Nat} {v : Value} {l : List (Int × Int)} (h : GAt w lab v l) (hb : Below w.heap.size w w') : GAt w' lab v l := h.keptL (A := fun _ => False) (KeptL.of_below hb) (fun _ h => h.elim)

/-- A step of a script. -/
structure Opr where
  K : Int
  A : Int
  B : Int
  C : Int
  D : Int
  E : Int
  l : List Int
def goalsPost (l : List Int) (w : World) (e : Ending) (w' : World) : Prop :=
  Below w.heap.size w w' ∧ if l.length % 2 = 1 then e = .returned (.tuple #[.slice none 0 0, .bool false])
    else ∃ v, e = .returned (.tuple #[v, .bool true]) ∧ ∀ lab : Nat → Nat, (∀ k, w.heap.size ≤ k → lab k = 0) → GAt w' lab v (gls l)
def grow (gl : List (Int × Int)) (k i : Nat) : Value := if i < 2 * k then ((prow gl)[i]?).getD (.int .i64 (0)) else .int .i64 (0)
theorem grow_next (gl : List (Int × Int)) (k : Nat) (p : Int × Int) (h : gl[k]? = some p) (i : Nat) : upd (upd (grow gl k) (k * 2) (.int .i64 (p.1))) (k * 2 + 1) (.int .i64 (p.2)) i = grow gl (k + 1) i := by
  obtain ⟨h1, h2⟩ := prow_at gl k p h
  unfold upd grow
  by_cases e1 : i = k * 2 + 1
  · subst e1; rw [if_pos rfl, if_pos (by omega), h2]; rfl
  · rw [if_neg e1]
    by_cases e2 : i = k * 2
    · subst e2; rw [if_pos rfl, if_pos (by omega), h1]; rfl
    · rw [if_neg e2]
      by_cases e3 : i < 2 * k
      · rw [if_pos e3, if_pos (by omega)]
      · rw [if_neg e3, if_neg (by omega)]
theorem made2 (x y : Value) (n i : Nat) (h : i < n) : (madeCells #[x, y] n)[i]? = some (if i % 2 = 0 then x else y) := by
  simp [madeCells, h]
  rcases (by omega : i % 2 = 0 ∨ i % 2 = 1) with e | e <;> simp [e]
theorem goals_any (o : Opr) (v : Value) (lab : Nat → Nat) (w : World) (hI : Ints w lab v o.l) (hl : o.l.length ≤ 65536) : Calls Try.prog 26 #[.agg #[.int .i64 ((o).K), .int .i64 ((o).A), .int .i64 ((o).B), .int .i64 ((o).C), .int .i64 ((o).D), .int .i64 ((o).E), v]] w (goalsPost o.l w) := by
  obtain ⟨K, A, B, C, D, E, l⟩ := o
  simp only at *
  obtain ⟨ao, cap, rfl, hcap⟩ := hI.ex
  have HI := hid hI
  obtain ⟨n, hn⟩ : ∃ n, l.length = n := ⟨_, rfl⟩
  rw [hn] at hcap HI hl ⊢
  have HN := hid hn
  by_cases hodd : n % 2 = 1
  · have hr1 : (n : Int).tmod 2 = 1 := by rw [Int.tmod_eq_emod_of_nonneg (by omega)]; omega
    have hr : ((n : Int).tmod 2 != 0) = true := by rw [hr1]; rfl
    have HG : Hid (∀ w' e, Below w.heap.size w w' → e = .returned (.tuple #[.slice none 0 0, .bool false]) → goalsPost l w e w') := fun w' e h1 h2 => by
      unfold goalsPost
      rw [HN.out, if_pos hodd]
      exact ⟨h1, h2⟩
    clear hn hI
    go_enter Try.func26, Try.ntmps26
    go_wp2
    go_ret2
    exact HG.out _ _ (by (repeat (first | with_reducible exact Below.rf _ | with_reducible exact World.below_ext _ _ | with_reducible refine Below.ex ?_ _ | with_reducible refine Below.al ?_ _ | with_reducible refine Below.setCell ?_ (by simp) _ | with_reducible refine Below.drew ?_))) rfl
  · obtain ⟨m, hm⟩ : ∃ m, n = 2 * m := ⟨n / 2, by omega⟩
    subst hm
    have hr1 : ((2 * m : Nat) : Int).tmod 2 = 0 := by rw [Int.tmod_eq_emod_of_nonneg (by omega)]; omega
    have hr : (((2 * m : Nat) : Int).tmod 2 != 0) = false := by rw [hr1]; rfl
    have hq : ((2 * m : Nat) : Int).tdiv 2 = (m : Int) := by rw [Int.tdiv_eq_ediv_of_nonneg (by omega)]; omega
    obtain ⟨Z, hz1, hz2, hz3⟩ := make_is (P := Try.prog) 28 55 (.agg #[.int .i64 (0), .int .i64 (0)]) 2 16 Try.underlying28 (by kernel_rfl) m (by omega) (by omega)
    have HZ := hid hz2
    have hgl : (gls l).length = m := by rw [gls_len, hn]; omega
    have HGL := hid hgl
    clear hn hI hodd hz2 hgl
    go_enter Try.func26, Try.ntmps26
    go_wp2
    have hG : Blk ((w.alloc (Obj.cells #[.int .i64 (K), .int .i64 (A), .int .i64 (B), .int .i64 (C), .int .i64 (D), .int .i64 (E), .slice ao (2 * m) cap] 42)).alloc (Obj.cells Z 55)) (w.heap.size + 1) (m * 2) (grow (gls l) 0) := by
      refine ⟨by simp, fun i hi => ?_, fun i hi => by simp [go_sem, ↓IntWalk.iteOmega]⟩
      have : Z[i]? = some (.int .i64 (0)) := by
        rw [HZ.out]
        show (madeCells #[.int .i64 (0), .int .i64 (0)] (m * 2))[i]? = _
        rw [made2 _ _ _ _ hi]
        split <;> rfl
      simp [go_sem, ↓IntWalk.iteOmega, this, grow]
    have hB : Below w.heap.size w ((w.alloc (Obj.cells #[.int .i64 (K), .int .i64 (A), .int .i64 (B), .int .i64 (C), .int .i64 (D), .int .i64 (E), .slice ao (2 * m) cap] 42)).alloc (Obj.cells Z 55)) := by (repeat (first | with_reducible exact Below.rf _ | with_reducible exact World.below_ext _ _ | with_reducible refine Below.ex ?_ _ | with_reducible refine Below.al ?_ _ | with_reducible refine Below.setCell ?_ (by simp) _ | with_reducible refine Below.drew ?_))
    have hc6 : ((w.alloc (Obj.cells #[.int .i64 (K), .int .i64 (A), .int .i64 (B), .int .i64 (C), .int .i64 (D), .int .i64 (E), .slice ao (2 * m) cap] 42)).alloc (Obj.cells Z 55)).cell? ⟨w.heap.size, 6, none⟩ = some (.slice ao (2 * m) cap) := by simp [go_sem, ↓IntWalk.iteOmega]
    have HG := hid hG
    have HB := hid hB
    have HC6 := hid hc6
    obtain ⟨g, hg⟩ : ∃ g, g = w.heap.size + 1 := ⟨_, rfl⟩
    rw [← hg] at HG ⊢
    generalize ((w.alloc (Obj.cells #[.int .i64 (K), .int .i64 (A), .int .i64 (B), .int .i64 (C), .int .i64 (D), .int .i64 (E), .slice ao (2 * m) cap] 42)).alloc (Obj.cells Z 55)) = w0 at *
    have Hg := hid hg
    have hgn : w.heap.size < g := by omega
    clear hG hB hc6 hz3 hz1 hr1 hr hq hg
    go_loopw [18] (fun x wr => ∃ k : Nat, x = .int .i64 (k) ∧ k ≤ m ∧ Blk wr g (m * 2) (grow (gls l) k) ∧ Below w.heap.size w wr ∧ wr.cell? ⟨w.heap.size, 6, none⟩ = some (.slice ao (2 * m) cap)) (fun x _ => m - (intOf x).toNat)
    case atStart => exact ⟨0, rfl, Nat.zero_le _, HG.out, HB.out, HC6.out⟩
    case round =>
      obtain ⟨k, rfl, hk, h1, h2, h3⟩ := hrel
      have J1 := hid h1
      have J2 := hid h2
      clear HG HB HC6
      by_cases hkm : k < m
      · have hk1 : 2 * k < l.length := by rw [HN.out]; omega
        have hk2 : 2 * k + 1 < l.length := by rw [HN.out]; omega
        have hx : l[2 * k]? = some l[2 * k] := List.getElem?_eq_getElem hk1
        have hy : l[2 * k + 1]? = some l[2 * k + 1] := List.getElem?_eq_getElem hk2
        have hp := gls_at l k _ _ hx hy
        generalize l[2 * k] = x at *
        generalize l[2 * k + 1] = y at *
        obtain ⟨b, a, n', cap', hv, hbl, -, q⟩ := HI.out.row _ x hx
        obtain ⟨b', a', n2, cap2, hv2, hbl2, -, q2⟩ := HI.out.row _ y hy
        rw [hv] at hv2
        simp only [Value.slice.injEq, Option.some.injEq, Addr.mk.injEq, and_true] at hv hv2
        obtain ⟨⟨rfl, rfl⟩, -, -⟩ := hv2
        obtain ⟨rfl, -, -⟩ := hv
        have r1 : wr.cell? ⟨b, a + 2 * k, none⟩ = some (.int .i64 (x)) := (World.cell?_of_block (h2.block b hbl)).trans q
        have r2 : wr.cell? ⟨b, a + (2 * k + 1), none⟩ = some (.int .i64 (y)) := (World.cell?_of_block (h2.block b hbl)).trans q2
        have sz := h2.size
        have hbw : b < wr.heap.size := by omega
        have hgl := h1.lt
        have g1 := h1.is (k * 2) (by omega)
        have g2 := h1.is (k * 2 + 1) (by omega)
        have z1 := h1.fz (k * 2) (by omega)
        have z2 := h1.fz (k * 2 + 1) (by omega)
        have dk : decide ((k : Int) < (m : Int)) = true := by simp; omega
        have HP := hid hp
        have hw1 : IntKind.i64.wrap (2 * (k : Int)) = 2 * (k : Int) := by simp [IntKind.wrap, IntKind.bits, IntKind.signed]; omega
        have hw2 : IntKind.i64.wrap (2 * (k : Int) + 1) = 2 * (k : Int) + 1 := by simp [IntKind.wrap, IntKind.bits, IntKind.signed]; omega
        have hn1 : 0 ≤ 2 * (k : Int) := by omega
        have hn2 : 0 ≤ 2 * (k : Int) + 1 := by omega
        have hn3 : 2 * (k : Int) + 1 < 2 * (m : Int) := by omega
        have hn4 : 2 * (k : Int) < 2 * (m : Int) := by omega
        have ht1 : (2 * (k : Int)).toNat = 2 * k := by omega
        have ht2 : (2 * (k : Int) + 1).toNat = 2 * k + 1 := by omega
        clear hx hy hp q q2 h1 h2
        go_wp2
        refine wp_region_tree 17 (fun w' => w'.cell? ⟨w.heap.size, 6, none⟩ = some (.slice (some ⟨b, a, none⟩) (2 * m) cap) ∧ w'.cell? ⟨b, a + 2 * k, none⟩ = some (.int .i64 (x)) ∧ w'.cell? ⟨b, a + (2 * k + 1), none⟩ = some (.int .i64 (y))) (.q 0 false (.q 1 false (.q 2 false (.q 3 true (.q 4 false (.q 5 false (.q 6 false (.q 7 true (.q 8 false (.q 9 true (.q 10 false (.q 11 false (.q 12 false (.q 13 false (.q 14 true (.q 15 false (.q 16 false (.one 17 false .nil)))))))))))))))))) (by kernel_rfl) (by kernel_rfl) (by kernel_rfl) ?_ ?_
        · simp [go_sem, ↓IntWalk.iteOmega, *]
        repeat (first | (refine wpTr_qf (v := ?_) rfl rfl ?_ ?_; rotate_left; focus (intro w; go_simp; (try (with_reducible rfl)); done); try simp only [List.getElem_toArray, List.getElem_cons_zero, List.getElem_cons_succ, Act.put, List.setIfInBounds_toArray, List.set_cons_zero, List.set_cons_succ]) | (refine wpTr_qt (v := ?_) rfl rfl ?_ ?_; rotate_left; focus (intro w hSw; (try dsimp only at hSw); go_simp; (try (with_reducible rfl)); done); try simp only [List.getElem_toArray, List.getElem_cons_zero, List.getElem_cons_succ, Act.put, List.setIfInBounds_toArray, List.set_cons_zero, List.set_cons_succ]))
        refine wpTr_one rfl rfl (fun K hK => ?_)
        go_simp
        refine hK.out _ _ (fun h => by cases h) ?_
        clear hK K
        refine wpTr_nil ?_
        refine NoPanic.normal ?_
        go_wp2
        go_roundw
        case rel =>
          refine ⟨k + 1, by go_num, by omega, ?_, ?_, ?_⟩
          · exact (((J1.out.set (k * 2) (.int .i64 (x)) (by omega)).set (k * 2 + 1) (.int .i64 (y)) (by omega)).congr (fun i _ => grow_next (gls l) k (x, y) HP.out i)).below (Below.rf _).drew
          · exact ((J2.out.setCell (by simp; omega) _).setCell (by simp; omega) _).drew
          · simp [go_sem, ↓IntWalk.iteOmega]
            exact h3
        case measure => simp [intOf]; omega
      · have hkm2 : m = k := by omega
        subst hkm2
        clear h1 h2
        go_wp2
        go_ret2
        unfold goalsPost
        rw [HN.out, if_neg (by omega)]
        refine ⟨J2.out, .slice (some ⟨g, 0, none⟩) m m, rfl, fun lab' hl' => ⟨⟨some ⟨g, 0, none⟩, m, by rw [HGL.out], Nat.le_of_eq HGL.out⟩, by rw [HGL.out]; omega, fun p hp => ?_, fun j p hj => ?_⟩⟩
        · have := gls_mem l p hp
          exact ⟨HI.out.i64 _ this.1, HI.out.i64 _ this.2⟩
        · have hj2 := (List.getElem?_eq_some_iff.1 hj).1
          rw [HGL.out] at hj2
          obtain ⟨e1, e2⟩ := prow_at (gls l) j p hj
          refine ⟨g, _, _, rfl, J1.out.lt, Or.inl (hl' g (by omega)), ?_, ?_⟩
          · rw [J1.out.is _ (by omega)]; unfold grow; rw [if_pos (by omega), e1]; rfl
          · rw [J1.out.is _ (by omega)]; unfold grow; rw [if_pos (by omega), e2]; rfl
end Go.Proofs.Qxb6500716a
