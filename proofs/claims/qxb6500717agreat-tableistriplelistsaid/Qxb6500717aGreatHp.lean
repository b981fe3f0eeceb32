/-
  The heap in memory, its shape only; before, sink.
-/
import Derived.Test.Qxb6500717aGreatTrunc
import Derived.Test.Qxb6500717aGreatTr
namespace Go.Proofs.Qxb6500717aGreat
open Go.RowKit
set_option linter.unusedSimpArgs false
set_option linter.unusedVariables false

def Ints (vs : List Value) : Prop := ∀ v ∈ vs, ∃ x : Int, v = .int .i64 (x)
theorem Ints.at {vs : List Value} (h : Ints vs) {i : Nat} (hi : i < vs.length) : ∃ x : Int, vs[i]? = some (.int .i64 (x)) := by
  obtain ⟨x, hx⟩ := h vs[i] (List.getElem_mem hi)
  exact ⟨x, by rw [List.getElem?_eq_getElem hi, hx]⟩
theorem Ints.set {vs : List Value} (h : Ints vs) (i : Nat) (x : Int) : Ints (vs.set i (.int .i64 (x))) := by
  intro v hv
  rcases List.mem_or_eq_of_mem_set hv with hv | hv
  · exact h v hv
  · exact ⟨x, hv⟩
theorem Ints.take {vs : List Value} (h : Ints vs) (n : Nat) : Ints (vs.take n) := fun v hv => h v (List.mem_of_mem_take hv)
theorem Ints.app {vs us : List Value} (h : Ints vs) (k : Ints us) : Ints (vs ++ us) := fun v hv => (List.mem_append.1 hv).elim (h v) (k v)

/-- Block b has room for cap nodes; n of them are there. -/
def HB (w : World) (b cap n : Nat) : Prop := ∃ vs, Pad w b (4 * cap) vs ∧ vs.length = 4 * n ∧ Ints vs
section
variable {w w' : World} {b cap n : Nat}
theorem HB.lt (h : HB w b cap n) : b < w.heap.size := by obtain ⟨vs, h1, -, -⟩ := h; exact h1.lt
theorem HB.at (h : HB w b cap n) {i : Nat} (hi : i < n) : ∃ x0 x1 x2 x3 : Int, w.cell? ⟨b, i * 4, none⟩ = some (.int .i64 (x0)) ∧ w.cell? ⟨b, i * 4 + 1, none⟩ = some (.int .i64 (x1)) ∧ w.cell? ⟨b, i * 4 + 2, none⟩ = some (.int .i64 (x2)) ∧ w.cell? ⟨b, i * 4 + 3, none⟩ = some (.int .i64 (x3)) ∧
    w.frozen? ⟨b, i * 4, none⟩ = false ∧ w.frozen? ⟨b, i * 4 + 1, none⟩ = false ∧ w.frozen? ⟨b, i * 4 + 2, none⟩ = false ∧ w.frozen? ⟨b, i * 4 + 3, none⟩ = false := by
  obtain ⟨vs, h1, h2, h3⟩ := h
  have hl := h1.len
  obtain ⟨x0, e0⟩ := h3.at (i := i * 4) (by omega)
  obtain ⟨x1, e1⟩ := h3.at (i := i * 4 + 1) (by omega)
  obtain ⟨x2, e2⟩ := h3.at (i := i * 4 + 2) (by omega)
  obtain ⟨x3, e3⟩ := h3.at (i := i * 4 + 3) (by omega)
  exact ⟨x0, x1, x2, x3, h1.is _ _ e0, h1.is _ _ e1, h1.is _ _ e2, h1.is _ _ e3, h1.fz _ (by omega), h1.fz _ (by omega), h1.fz _ (by omega), h1.fz _ (by omega)⟩
theorem HB.put1 (h : HB w b cap n) {i : Nat} (hi : i < 4 * n) (x : Int) : HB (w.setCell ⟨b, i, none⟩ (.int .i64 (x))) b cap n := by
  obtain ⟨vs, h1, h2, h3⟩ := h
  exact ⟨_, Pad.set h1 i (.int .i64 (x)) (by omega), by rw [List.length_set]; exact h2, h3.set i x⟩
theorem HB.put (h : HB w b cap n) {i : Nat} (hi : i < n) (x0 x1 x2 x3 : Int) : HB ((((w.setCell ⟨b, i * 4, none⟩ (.int .i64 (x0))).setCell ⟨b, i * 4 + 1, none⟩ (.int .i64 (x1))).setCell ⟨b, i * 4 + 2, none⟩ (.int .i64 (x2))).setCell ⟨b, i * 4 + 3, none⟩ (.int .i64 (x3))) b cap n :=
  (((h.put1 (by omega) x0).put1 (by omega) x1).put1 (by omega) x2).put1 (by omega) x3
theorem HB.below (h : HB w b cap n) (hb : Below w.heap.size w w') : HB w' b cap n := by
  obtain ⟨vs, h1, h2, h3⟩ := h
  exact ⟨vs, h1.below hb, h2, h3⟩
theorem HB.kept {c : Nat} (h : HB w b cap n) (hk : KeptBut c w w') (hne : b ≠ c) : HB w' b cap n := by
  obtain ⟨vs, h1, h2, h3⟩ := h
  exact ⟨vs, h1.kept hk hne, h2, h3⟩
theorem HB.take (h : HB w b cap n) {m : Nat} (hm : m ≤ n) : HB w b cap m := by
  obtain ⟨vs, h1, h2, h3⟩ := h
  exact ⟨vs.take (4 * m), Pad.take h1 _, by rw [List.length_take]; omega, h3.take _⟩
theorem HB.le (h : HB w b cap n) : n ≤ cap := by
  obtain ⟨vs, h1, h2, h3⟩ := h
  have := h1.len
  omega
end

/-- Does a node come before another? -/
def bef (a b d a' b' d' : Int) : Bool := if a ≠ a' then decide (a < a') else if b ≠ b' then decide (b < b') else decide (d < d')
set_option maxRecDepth 20000 in
set_option maxHeartbeats 1000000 in
theorem before_any (a b c d a' b' c' d' : Int) (w : World) : Calls Tryz.prog 64 #[.agg #[.int .i64 (a), .int .i64 (b), .int .i64 (c), .int .i64 (d)], .agg #[.int .i64 (a'), .int .i64 (b'), .int .i64 (c'), .int .i64 (d')]] w fun e w' => e = .returned (.bool (bef a b d a' b' d')) ∧ ∃ z, w' = w.ext z := by
  unfold bef
  by_cases h1 : a = a'
  · rw [if_neg (by simpa using h1)]
    by_cases h2 : b = b'
    · rw [if_neg (by simpa using h2)]
      subst h1 h2
      go_enter Tryz.func64, Tryz.ntmps64
      go_wp2
      go_ret
      refine ⟨rfl, ?_⟩
      refine Below.is_ext ?_
      (repeat (first | with_reducible exact Below.rf _ | with_reducible exact World.below_ext _ _ | with_reducible refine Below.ex ?_ _ | with_reducible refine Below.al ?_ _ | with_reducible refine Below.setCell ?_ (by simp) _ | with_reducible refine Below.drew ?_))
    · rw [if_pos (by simpa using h2)]
      have b1 : (b != b') = true := by simpa using h2
      have b2 : (b == b') = false := by simpa using h2
      subst h1
      clear h2
      go_enter Tryz.func64, Tryz.ntmps64
      go_wp2
      go_ret
      refine ⟨rfl, ?_⟩
      refine Below.is_ext ?_
      (repeat (first | with_reducible exact Below.rf _ | with_reducible exact World.below_ext _ _ | with_reducible refine Below.ex ?_ _ | with_reducible refine Below.al ?_ _ | with_reducible refine Below.setCell ?_ (by simp) _ | with_reducible refine Below.drew ?_))
  · rw [if_pos (by simpa using h1)]
    have b1 : (a != a') = true := by simpa using h1
    have b2 : (a == a') = false := by simpa using h1
    clear h1
    go_enter Tryz.func64, Tryz.ntmps64
    go_wp2
    go_ret
    refine ⟨rfl, ?_⟩
    refine Below.is_ext ?_
    (repeat (first | with_reducible exact Below.rf _ | with_reducible exact World.below_ext _ _ | with_reducible refine Below.ex ?_ _ | with_reducible refine Below.al ?_ _ | with_reducible refine Below.setCell ?_ (by simp) _ | with_reducible refine Below.drew ?_))

theorem sink_nil (d : Nat) (ao : Option Addr) (cap : Nat) (w : World) (hd : d < w.heap.size) (c1 : w.cell? ⟨d, 1, none⟩ = some (.slice ao 0 cap)) :
    Calls Tryz.prog 65 #[.pointer (some ⟨d, 1, none⟩), .int .i64 (0)] w fun e w' => e = .returned (.tuple #[]) ∧ w' = w := by
  go_enter Tryz.func65, Tryz.ntmps65
  go_wp2
  go_loopw [1] (fun x wr => x = .int .i64 (0) ∧ wr = w) (fun _ _ => 0)
  case atStart => exact ⟨rfl, rfl⟩
  case round =>
    obtain ⟨rfl, rfl⟩ := hrel
    go_wp2
    go_loopw [5, 6] (fun y x w2 => x = .int .i64 (1) ∧ y = .int .i64 (0) ∧ w2 = wr) (fun _ _ _ => 0)
    case atStart => exact ⟨rfl, rfl, rfl⟩
    case round =>
      obtain ⟨rfl, rfl, rfl⟩ := hrel
      go_wp2
      refine bodyPost_ret (v := .tuple #[]) (by simp [results, Tryz.results65]) rfl ?_
      exact ⟨rfl, rfl⟩

theorem _root_.Go.KeptBut.set' {b : Nat} {w w1 : World} (h : KeptBut b w w1) (i : Nat) (v : Value) : KeptBut b w (w1.setCell ⟨b, i, none⟩ v) := h.set (Or.inl rfl) v

def sinkPost (b cap n : Nat) (w : World) (e : Ending) (w' : World) : Prop := e = .returned (.tuple #[]) ∧ HB w' b cap n ∧ KeptBut b w w'
set_option maxRecDepth 20000 in
set_option maxHeartbeats 4000000 in
theorem sink_any (d b cap n : Nat) (w : World) (hd : d < w.heap.size) (c1 : w.cell? ⟨d, 1, none⟩ = some (.slice (some ⟨b, 0, none⟩) n cap)) (hn : 1 ≤ n ∧ n ≤ 1000000) (hb : HB w b cap n) (hne : b ≠ d) :
    Calls Tryz.prog 65 #[.pointer (some ⟨d, 1, none⟩), .int .i64 (0)] w (sinkPost b cap n w) := by
  have HH := hid hb
  have hcn := hb.le
  clear hb
  go_enter Tryz.func65, Tryz.ntmps65
  go_wp2
  go_loopw [1] (fun x wr => ∃ i : Nat, x = .int .i64 (i) ∧ i < n ∧ HB wr b cap n ∧ KeptBut b w wr) (fun x _ => n - (intOf x).toNat)
  case atStart => exact ⟨0, rfl, by omega, HH.out, KeptBut.refl b w⟩
  case round =>
    obtain ⟨i, rfl, hi, hB, hK⟩ := hrel
    have d1 : d < wr.heap.size := Nat.lt_of_lt_of_le hd hK.size
    have c1' : wr.cell? ⟨d, 1, none⟩ = some (.slice (some ⟨b, 0, none⟩) n cap) := (hK.cell 1 hd (Ne.symm hne)).trans c1
    have HB1 := hid hB
    have HK := hid hK
    have C1 := hid c1
    clear c1 hB hK
    go_wp2
    go_loopw [5, 6] (fun y x w2 => ∃ l c : Nat, x = .int .i64 (c) ∧ y = .int .i64 (l) ∧ 2 * i + 1 ≤ c ∧ c ≤ 2 * i + 3 ∧ i ≤ l ∧ l < n ∧ HB w2 b cap n ∧ KeptBut b w w2) (fun _ x _ => 2 * i + 3 - (intOf x).toNat)
    case atStart => exact ⟨i, 2 * i + 1, by go_num, rfl, by omega, by omega, by omega, by omega, HB1.out, HK.out⟩
    case round =>
      clear d1 c1'
      obtain ⟨l, c, rfl, rfl, hc1, hc2, hl1, hl2, hB2, hK2⟩ := hrel
      have HB2 := hid hB2
      have HK2 := hid hK2
      have d2 : d < wr.heap.size := Nat.lt_of_lt_of_le hd hK2.size
      have e2 : wr.cell? ⟨d, 1, none⟩ = some (.slice (some ⟨b, 0, none⟩) n cap) := (hK2.cell 1 hd (Ne.symm hne)).trans C1.out
      have lb := hB2.lt
      by_cases hcc : c ≤ 2 * i + 2 ∧ c < n
      · have hcn2 := hcc.2
        have hc3 := hcc.1
        obtain ⟨x0, x1, x2, x3, p0, p1, p2, p3, -⟩ := hB2.at hcn2
        obtain ⟨y0, y1, y2, y3, q0, q1, q2, q3, -⟩ := hB2.at hl2
        clear hB2 hK2 hcc
        go_wp2
        first | with_reducible refine wp_region_ext2 (by kernel_rfl) (by kernel_rfl) ?_ | refine wp_region_ext (by kernel_rfl) (by kernel_rfl) ?_
        repeat (go_big_quiet_step ((go_at_call 64; exact Calls.ext_of (before_any _ _ _ _ _ _ _ _ _))))
        refine wpQuiet_nil ?_
        rintro _ ⟨z, rfl⟩
        generalize bef x0 x1 x3 y0 y1 y3 = r
        cases r with
        | true =>
          go_wp2
          go_roundw
          case rel => exact ⟨c, c + 1, by go_num, rfl, by omega, by omega, by omega, by omega, HB2.out.below (by (repeat (first | with_reducible exact Below.rf _ | with_reducible exact World.below_ext _ _ | with_reducible refine Below.ex ?_ _ | with_reducible refine Below.al ?_ _ | with_reducible refine Below.setCell ?_ (by simp) _ | with_reducible refine Below.drew ?_))), HK2.out.ex _⟩
          case measure => simp [intOf]; omega
        | false =>
          go_wp2
          go_roundw
          case rel => exact ⟨l, c + 1, by go_num, rfl, by omega, by omega, by omega, by omega, HB2.out.below (by (repeat (first | with_reducible exact Below.rf _ | with_reducible exact World.below_ext _ _ | with_reducible refine Below.ex ?_ _ | with_reducible refine Below.al ?_ _ | with_reducible refine Below.setCell ?_ (by simp) _ | with_reducible refine Below.drew ?_))), HK2.out.ex _⟩
          case measure => simp [intOf]; omega
      · have HC := hid hcc
        clear hcc
        by_cases hli : l = i
        · have b1 : ((l : Int) == i) = true := by simp; omega
          have HLI := hid hli
          clear hB2 hK2 hli
          by_cases hc4 : c ≤ 2 * i + 2
          · have hc5 : ¬ c < n := fun h => HC.out ⟨hc4, h⟩
            go_wp2
            refine bodyPost_ret (v := .tuple #[]) (by simp [results, Tryz.results65]) rfl ?_
            exact ⟨rfl, HB2.out, HK2.out⟩
          · go_wp2
            refine bodyPost_ret (v := .tuple #[]) (by simp [results, Tryz.results65]) rfl ?_
            exact ⟨rfl, HB2.out, HK2.out⟩
        · have b1 : ((l : Int) == i) = false := by simp; omega
          obtain ⟨x0, x1, x2, x3, p0, p1, p2, p3, f0, f1, f2, f3⟩ := hB2.at hi
          obtain ⟨y0, y1, y2, y3, q0, q1, q2, q3, g0, g1, g2, g3⟩ := hB2.at hl2
          clear hB2 hK2
          by_cases hc4 : c ≤ 2 * i + 2
          · have hc5 : ¬ c < n := fun h => HC.out ⟨hc4, h⟩
            go_wp2
            refine wp_region_tree 25 (fun w' => w'.cell? ⟨d, 1, none⟩ = some (.slice (some ⟨b, 0, none⟩) n cap) ∧ w'.cell? ⟨b, i * 4, none⟩ = some (.int .i64 (x0)) ∧ w'.cell? ⟨b, i * 4 + 1, none⟩ = some (.int .i64 (x1)) ∧ w'.cell? ⟨b, i * 4 + 2, none⟩ = some (.int .i64 (x2)) ∧ w'.cell? ⟨b, i * 4 + 3, none⟩ = some (.int .i64 (x3)) ∧ w'.cell? ⟨b, l * 4, none⟩ = some (.int .i64 (y0)) ∧ w'.cell? ⟨b, l * 4 + 1, none⟩ = some (.int .i64 (y1)) ∧ w'.cell? ⟨b, l * 4 + 2, none⟩ = some (.int .i64 (y2)) ∧ w'.cell? ⟨b, l * 4 + 3, none⟩ = some (.int .i64 (y3))) (.q 0 false (.q 1 false (.q 2 false (.q 3 true (.q 4 false (.q 5 false (.q 6 false (.q 7 false (.q 8 true (.q 9 false (.q 10 false (.q 11 false (.q 12 false (.q 13 true (.q 14 false (.q 15 false (.q 16 true (.q 17 false (.q 18 false (.q 19 false (.q 20 true (.q 21 false (.q 22 false (.q 23 true (.one 24 true (.one 25 false (.one 26 false (.one 27 false (.nil))))))))))))))))))))))))))))) (by kernel_rfl) (by kernel_rfl) (by kernel_rfl) ?_ ?_
            · simp [go_sem, ↓IntWalk.iteOmega, *]
            repeat (first | (refine wpTr_qf (v := ?_) rfl rfl ?_ ?_; rotate_left; focus (intro w; go_simp; (try (with_reducible rfl)); done); try simp only [List.getElem_toArray, List.getElem_cons_zero, List.getElem_cons_succ, Act.put, List.setIfInBounds_toArray, List.set_cons_zero, List.set_cons_succ]) | (refine wpTr_qt (v := ?_) rfl rfl ?_ ?_; rotate_left; focus (intro w hSw; (try dsimp only at hSw); go_simp; (try (with_reducible rfl)); done); try simp only [List.getElem_toArray, List.getElem_cons_zero, List.getElem_cons_succ, Act.put, List.setIfInBounds_toArray, List.set_cons_zero, List.set_cons_succ]))
            refine wpTr_one rfl rfl (fun K hK => ?_)
            go_simp
            refine hK.out _ _ (fun _ => by simp [go_sem, ↓IntWalk.iteOmega, *]) ?_
            clear hK K
            refine wpTr_one rfl rfl (fun K hK => ?_)
            go_simp
            refine hK.out _ _ (fun h => by cases h) ?_
            clear hK K
            generalize hW : World.drew (World.setCell (World.setCell (World.setCell (World.setCell wr _ _) _ _) _ _) _ _) = w5
            have hb5 : HB w5 b cap n := by rw [← hW]; exact (HB2.out.put hi y0 y1 y2 y3).below (Below.rf _).drew
            have hk5 : KeptBut b w w5 := by rw [← hW]; exact KeptBut.below ((((HK2.out.set' _ _).set' _ _).set' _ _).set' _ _) (Below.rf _).drew (by simpa using HK2.out.size)
            have HB5 := hid hb5
            have HK5 := hid hk5
            have lb5 := hb5.lt
            obtain ⟨u0, u1, u2, u3, s0, s1, s2, s3, t0, t1, t2, t3⟩ := hb5.at hl2
            clear hW hb5 hk5 p0 p1 p2 p3 q0 q1 q2 q3 f0 f1 f2 f3 g0 g1 g2 g3 lb d2 e2
            refine wpTr_one rfl rfl (fun K hK => ?_)
            go_simp
            refine hK.out _ _ (fun h => by cases h) ?_
            clear hK K
            refine wpTr_one rfl rfl (fun K hK => ?_)
            go_simp
            refine hK.out _ _ (fun h => by cases h) ?_
            clear hK K
            refine wpTr_nil ?_
            refine NoPanic.normal ?_
            go_wp2
            go_roundw
            case rel => exact ⟨l, rfl, hl2, HB5.out.put hl2 x0 x1 x2 x3, (((HK5.out.set' _ _).set' _ _).set' _ _).set' _ _⟩
            case measure => simp [intOf]; omega
          · go_wp2
            refine wp_region_tree 25 (fun w' => w'.cell? ⟨d, 1, none⟩ = some (.slice (some ⟨b, 0, none⟩) n cap) ∧ w'.cell? ⟨b, i * 4, none⟩ = some (.int .i64 (x0)) ∧ w'.cell? ⟨b, i * 4 + 1, none⟩ = some (.int .i64 (x1)) ∧ w'.cell? ⟨b, i * 4 + 2, none⟩ = some (.int .i64 (x2)) ∧ w'.cell? ⟨b, i * 4 + 3, none⟩ = some (.int .i64 (x3)) ∧ w'.cell? ⟨b, l * 4, none⟩ = some (.int .i64 (y0)) ∧ w'.cell? ⟨b, l * 4 + 1, none⟩ = some (.int .i64 (y1)) ∧ w'.cell? ⟨b, l * 4 + 2, none⟩ = some (.int .i64 (y2)) ∧ w'.cell? ⟨b, l * 4 + 3, none⟩ = some (.int .i64 (y3))) (.q 0 false (.q 1 false (.q 2 false (.q 3 true (.q 4 false (.q 5 false (.q 6 false (.q 7 false (.q 8 true (.q 9 false (.q 10 false (.q 11 false (.q 12 false (.q 13 true (.q 14 false (.q 15 false (.q 16 true (.q 17 false (.q 18 false (.q 19 false (.q 20 true (.q 21 false (.q 22 false (.q 23 true (.one 24 true (.one 25 false (.one 26 false (.one 27 false (.nil))))))))))))))))))))))))))))) (by kernel_rfl) (by kernel_rfl) (by kernel_rfl) ?_ ?_
            · simp [go_sem, ↓IntWalk.iteOmega, *]
            repeat (first | (refine wpTr_qf (v := ?_) rfl rfl ?_ ?_; rotate_left; focus (intro w; go_simp; (try (with_reducible rfl)); done); try simp only [List.getElem_toArray, List.getElem_cons_zero, List.getElem_cons_succ, Act.put, List.setIfInBounds_toArray, List.set_cons_zero, List.set_cons_succ]) | (refine wpTr_qt (v := ?_) rfl rfl ?_ ?_; rotate_left; focus (intro w hSw; (try dsimp only at hSw); go_simp; (try (with_reducible rfl)); done); try simp only [List.getElem_toArray, List.getElem_cons_zero, List.getElem_cons_succ, Act.put, List.setIfInBounds_toArray, List.set_cons_zero, List.set_cons_succ]))
            refine wpTr_one rfl rfl (fun K hK => ?_)
            go_simp
            refine hK.out _ _ (fun _ => by simp [go_sem, ↓IntWalk.iteOmega, *]) ?_
            clear hK K
            refine wpTr_one rfl rfl (fun K hK => ?_)
            go_simp
            refine hK.out _ _ (fun h => by cases h) ?_
            clear hK K
            generalize hW : World.drew (World.setCell (World.setCell (World.setCell (World.setCell wr _ _) _ _) _ _) _ _) = w5
            have hb5 : HB w5 b cap n := by rw [← hW]; exact (HB2.out.put hi y0 y1 y2 y3).below (Below.rf _).drew
            have hk5 : KeptBut b w w5 := by rw [← hW]; exact KeptBut.below ((((HK2.out.set' _ _).set' _ _).set' _ _).set' _ _) (Below.rf _).drew (by simpa using HK2.out.size)
            have HB5 := hid hb5
            have HK5 := hid hk5
            have lb5 := hb5.lt
            obtain ⟨u0, u1, u2, u3, s0, s1, s2, s3, t0, t1, t2, t3⟩ := hb5.at hl2
            clear hW hb5 hk5 p0 p1 p2 p3 q0 q1 q2 q3 f0 f1 f2 f3 g0 g1 g2 g3 lb d2 e2
            refine wpTr_one rfl rfl (fun K hK => ?_)
            go_simp
            refine hK.out _ _ (fun h => by cases h) ?_
            clear hK K
            refine wpTr_one rfl rfl (fun K hK => ?_)
            go_simp
            refine hK.out _ _ (fun h => by cases h) ?_
            clear hK K
            refine wpTr_nil ?_
            refine NoPanic.normal ?_
            go_wp2
            go_roundw
            case rel => exact ⟨l, rfl, hl2, HB5.out.put hl2 x0 x1 x2 x3, (((HK5.out.set' _ _).set' _ _).set' _ _).set' _ _⟩
            case measure => simp [intOf]; omega
end Go.Proofs.Qxb6500717aGreat
