/-
  The heap in memory, exactly; sink puts it in order.
-/
import Derived.Test.Qxb6500717aGreatHp
import Derived.Test.Qxb6500717aGreatPHeap
namespace Go.Proofs.Qxb6500717aGreat
open Go.RowKit
set_option linter.unusedSimpArgs false
set_option linter.unusedVariables false

/-- Nodes as cells. -/
def erow (l : List Ent) : List Value := l.flatMap fun x => [.int .i64 (x.1), .int .i64 (x.2.1), .int .i64 (x.2.2.1), .int .i64 (x.2.2.2)]
theorem erow_len (l : List Ent) : (erow l).length = 4 * l.length := by
  induction l with
  | nil => rfl
  | cons x l ih => simp [erow] at ih ⊢; omega
theorem erow_app (l m : List Ent) : erow (l ++ m) = erow l ++ erow m := by simp [erow]
theorem erow_at (l : List Ent) (k : Nat) (x : Ent) (h : l[k]? = some x) : (erow l)[k * 4]? = some (.int .i64 (x.1)) ∧ (erow l)[k * 4 + 1]? = some (.int .i64 (x.2.1)) ∧ (erow l)[k * 4 + 2]? = some (.int .i64 (x.2.2.1)) ∧ (erow l)[k * 4 + 3]? = some (.int .i64 (x.2.2.2)) := by
  induction l generalizing k with
  | nil => simp at h
  | cons y l ih =>
    cases k with
    | zero => simp at h; subst h; exact ⟨rfl, rfl, rfl, rfl⟩
    | succ k =>
      have := ih k (by simpa using h)
      rw [show (k + 1) * 4 = k * 4 + 4 by omega, show k * 4 + 4 + 1 = k * 4 + 1 + 4 by omega, show k * 4 + 4 + 2 = k * 4 + 2 + 4 by omega, show k * 4 + 4 + 3 = k * 4 + 3 + 4 by omega]
      exact this
theorem erow_set (l : List Ent) (k : Nat) (y : Ent) (h : k < l.length) : erow (l.set k y) = ((((erow l).set (k * 4) (.int .i64 (y.1))).set (k * 4 + 1) (.int .i64 (y.2.1))).set (k * 4 + 2) (.int .i64 (y.2.2.1))).set (k * 4 + 3) (.int .i64 (y.2.2.2)) := by
  induction l generalizing k with
  | nil => simp at h
  | cons x l ih =>
    cases k with
    | zero => rfl
    | succ k =>
      have := ih k (by simpa using h)
      rw [show (k + 1) * 4 = k * 4 + 4 by omega, show k * 4 + 4 + 1 = k * 4 + 1 + 4 by omega, show k * 4 + 4 + 2 = k * 4 + 2 + 4 by omega, show k * 4 + 4 + 3 = k * 4 + 3 + 4 by omega]
      show erow [x] ++ erow (l.set k y) = _
      rw [this]
      rfl
theorem erow_take (l : List Ent) (k : Nat) : erow (l.take k) = (erow l).take (4 * k) := by
  induction l generalizing k with
  | nil => simp [erow]
  | cons x l ih =>
    cases k with
    | zero => simp [erow]
    | succ k =>
      rw [show 4 * (k + 1) = 4 * k + 4 by omega]
      show erow [x] ++ erow (l.take k) = _
      rw [ih k]
      rfl

/-- Block b has room for cap nodes and holds L. -/
def HX (w : World) (b cap : Nat) (L : List Ent) : Prop := Pad w b (4 * cap) (erow L)
section
variable {w w' : World} {b cap : Nat} {L : List Ent}
theorem HX.lt (h : HX w b cap L) : b < w.heap.size := Pad.lt h
theorem HX.le (h : HX w b cap L) : L.length ≤ cap := by
  have := Pad.len h
  rw [erow_len] at this
  omega
theorem HX.at (h : HX w b cap L) {i : Nat} (hi : i < L.length) : w.cell? ⟨b, i * 4, none⟩ = some (.int .i64 ((at0 L i).1)) ∧ w.cell? ⟨b, i * 4 + 1, none⟩ = some (.int .i64 ((at0 L i).2.1)) ∧ w.cell? ⟨b, i * 4 + 2, none⟩ = some (.int .i64 ((at0 L i).2.2.1)) ∧ w.cell? ⟨b, i * 4 + 3, none⟩ = some (.int .i64 ((at0 L i).2.2.2)) ∧
    w.frozen? ⟨b, i * 4, none⟩ = false ∧ w.frozen? ⟨b, i * 4 + 1, none⟩ = false ∧ w.frozen? ⟨b, i * 4 + 2, none⟩ = false ∧ w.frozen? ⟨b, i * 4 + 3, none⟩ = false := by
  obtain ⟨e0, e1, e2, e3⟩ := erow_at L i _ (at0_get L i hi)
  have hl := h.le
  exact ⟨Pad.is h _ _ e0, Pad.is h _ _ e1, Pad.is h _ _ e2, Pad.is h _ _ e3, Pad.fz h _ (by omega), Pad.fz h _ (by omega), Pad.fz h _ (by omega), Pad.fz h _ (by omega)⟩
theorem HX.put (h : HX w b cap L) {i : Nat} (hi : i < L.length) (e : Ent) : HX ((((w.setCell ⟨b, i * 4, none⟩ (.int .i64 (e.1))).setCell ⟨b, i * 4 + 1, none⟩ (.int .i64 (e.2.1))).setCell ⟨b, i * 4 + 2, none⟩ (.int .i64 (e.2.2.1))).setCell ⟨b, i * 4 + 3, none⟩ (.int .i64 (e.2.2.2))) b cap (L.set i e) := by
  unfold HX
  rw [erow_set L i e hi]
  have hl := erow_len L
  refine Pad.set (Pad.set (Pad.set (Pad.set h _ _ (by omega)) _ _ (by simp; omega)) _ _ (by simp; omega)) _ _ (by simp; omega)
theorem HX.below (h : HX w b cap L) (hb : Below w.heap.size w w') : HX w' b cap L := Pad.below h hb
theorem HX.kept {c : Nat} (h : HX w b cap L) (hk : KeptBut c w w') (hne : b ≠ c) : HX w' b cap L := Pad.kept h hk hne
theorem HX.take (h : HX w b cap L) (m : Nat) : HX w b cap (L.take m) := by
  unfold HX
  rw [erow_take]
  exact Pad.take h _
end
theorem bef_lt (a b : Ent) : bef a.1 a.2.1 a.2.2.2 b.1 b.2.1 b.2.2.2 = true ↔ Lt a b := by
  unfold bef Lt
  by_cases h1 : a.1 ≠ b.1
  · rw [if_pos h1]; simp; omega
  · rw [if_neg h1]
    by_cases h2 : a.2.1 ≠ b.2.1
    · rw [if_pos h2]; simp; omega
    · rw [if_neg h2]; simp; omega

def sinkXPost (b cap : Nat) (L : List Ent) (w : World) (e : Ending) (w' : World) : Prop := e = .returned (.tuple #[]) ∧ ∃ L', HX w' b cap L' ∧ L'.Perm L ∧ isHeap L' ∧ KeptBut b w w'
set_option maxRecDepth 20000 in
set_option maxHeartbeats 4000000 in
theorem sinkX_any (d b cap n : Nat) (L : List Ent) (w : World) (hd : d < w.heap.size) (c1 : w.cell? ⟨d, 1, none⟩ = some (.slice (some ⟨b, 0, none⟩) n cap)) (hn : 1 ≤ n ∧ n ≤ 1000000) (hL : L.length = n) (hb : HX w b cap L) (hdn : dnAt L 0) (hne : b ≠ d) :
    Calls Tryz.prog 65 #[.pointer (some ⟨d, 1, none⟩), .int .i64 (0)] w (sinkXPost b cap L w) := by
  have HH := hid hb
  have hcn := hb.le
  have HDN := hid hdn
  have HL := hid hL
  clear hb hdn hL
  go_enter Tryz.func65, Tryz.ntmps65
  go_wp2
  go_loopw [1] (fun x wr => ∃ (i : Nat) (L2 : List Ent), x = .int .i64 (i) ∧ i < n ∧ HX wr b cap L2 ∧ L2.length = n ∧ L2.Perm L ∧ dnAt L2 i ∧ KeptBut b w wr) (fun x _ => n - (intOf x).toNat)
  case atStart => exact ⟨0, L, rfl, by omega, HH.out, HL.out, List.Perm.refl _, HDN.out, KeptBut.refl b w⟩
  case round =>
    obtain ⟨i, L2, rfl, hi, hB, hln, hpm, hdA, hK⟩ := hrel
    have d1 : d < wr.heap.size := Nat.lt_of_lt_of_le hd hK.size
    have c1' : wr.cell? ⟨d, 1, none⟩ = some (.slice (some ⟨b, 0, none⟩) n cap) := (hK.cell 1 hd (Ne.symm hne)).trans c1
    have HB1 := hid hB
    have HK := hid hK
    have C1 := hid c1
    have HLN := hid hln
    have HPM := hid hpm
    have HDA := hid hdA
    clear c1 hB hK hpm hdA
    go_wp2
    go_loopw [5, 6] (fun y x w2 => ∃ l c : Nat, x = .int .i64 (c) ∧ y = .int .i64 (l) ∧ 2 * i + 1 ≤ c ∧ c ≤ 2 * i + 3 ∧ (l = i ∨ ((l = 2 * i + 1 ∨ l = 2 * i + 2) ∧ l < c)) ∧ l < n ∧ (l ≠ i → Lt (at0 L2 l) (at0 L2 i)) ∧ (∀ j, 2 * i + 1 ≤ j → j < c → j < n → ¬ Lt (at0 L2 j) (at0 L2 l)) ∧ HX w2 b cap L2 ∧ KeptBut b w w2) (fun _ x _ => 2 * i + 3 - (intOf x).toNat)
    case atStart => exact ⟨i, 2 * i + 1, by go_num, rfl, by omega, by omega, Or.inl rfl, by omega, fun h => absurd rfl h, fun j h1 h2 => by omega, HB1.out, HK.out⟩
    case round =>
      clear d1 c1'
      obtain ⟨l, c, rfl, rfl, hc1, hc2, hl1, hl2, hli0, hmin, hB2, hK2⟩ := hrel
      have HB2 := hid hB2
      have HK2 := hid hK2
      have HLI0 := hid hli0
      have HMIN := hid hmin
      have HL1 := hid hl1
      have d2 : d < wr.heap.size := Nat.lt_of_lt_of_le hd hK2.size
      have e2 : wr.cell? ⟨d, 1, none⟩ = some (.slice (some ⟨b, 0, none⟩) n cap) := (hK2.cell 1 hd (Ne.symm hne)).trans C1.out
      have lb := hB2.lt
      clear hli0 hmin hl1
      by_cases hcc : c ≤ 2 * i + 2 ∧ c < n
      · have hcn2 := hcc.2
        have hc3 := hcc.1
        obtain ⟨p0, p1, p2, p3, -⟩ := hB2.at (i := c) (by omega)
        obtain ⟨q0, q1, q2, q3, -⟩ := hB2.at (i := l) (by omega)
        have HBF := hid (bef_lt (at0 L2 c) (at0 L2 l))
        clear hB2 hK2 hcc
        go_wp2
        first | with_reducible refine wp_region_ext2 (by kernel_rfl) (by kernel_rfl) ?_ | refine wp_region_ext (by kernel_rfl) (by kernel_rfl) ?_
        repeat (go_big_quiet_step ((go_at_call 64; exact Calls.ext_of (before_any _ _ _ _ _ _ _ _ _))))
        refine wpQuiet_nil ?_
        rintro _ ⟨z, rfl⟩
        generalize hr : bef (at0 L2 c).1 (at0 L2 c).2.1 (at0 L2 c).2.2.2 (at0 L2 l).1 (at0 L2 l).2.1 (at0 L2 l).2.2.2 = r
        have HR := hid hr
        clear hr
        cases r with
        | true =>
          have hlt := HBF.out.1 HR.out
          have HLT := hid hlt
          clear hlt
          go_wp2
          go_roundw
          case rel =>
            refine ⟨c, c + 1, by go_num, rfl, by omega, by omega, Or.inr ⟨by omega, by omega⟩, by omega, fun _ => ?_, fun j h1 h2 h3 => ?_, HB2.out.below (by (repeat (first | with_reducible exact Below.rf _ | with_reducible exact World.below_ext _ _ | with_reducible refine Below.ex ?_ _ | with_reducible refine Below.al ?_ _ | with_reducible refine Below.setCell ?_ (by simp) _ | with_reducible refine Below.drew ?_))), HK2.out.ex _⟩
            · by_cases e : l = i
              · have := HLT.out; rwa [e] at this
              · exact lt_trans HLT.out (HLI0.out e)
            · by_cases e : j = c
              · rw [e]; exact lt_irrefl _
              · exact fun h => HMIN.out j h1 (by omega) h3 (lt_trans h HLT.out)
          case measure => simp [intOf]; omega
        | false =>
          have hlt : ¬ Lt (at0 L2 c) (at0 L2 l) := fun h => by have := HBF.out.2 h; rw [HR.out] at this; cases this
          have HLT := hid hlt
          clear hlt
          go_wp2
          go_roundw
          case rel =>
            refine ⟨l, c + 1, by go_num, rfl, by omega, by omega, ?_, by omega, HLI0.out, fun j h1 h2 h3 => ?_, HB2.out.below (by (repeat (first | with_reducible exact Below.rf _ | with_reducible exact World.below_ext _ _ | with_reducible refine Below.ex ?_ _ | with_reducible refine Below.al ?_ _ | with_reducible refine Below.setCell ?_ (by simp) _ | with_reducible refine Below.drew ?_))), HK2.out.ex _⟩
            · have := HL1.out; omega
            · by_cases e : j = c
              · rw [e]; exact HLT.out
              · exact HMIN.out j h1 (by omega) h3
          case measure => simp [intOf]; omega
      · have HC := hid hcc
        have hcc2 : ∀ j, 2 * i + 1 ≤ j → j ≤ 2 * i + 2 → j < n → ¬ Lt (at0 L2 j) (at0 L2 l) := fun j h1 h2 h3 => HMIN.out j h1 (by omega) h3
        have HCC := hid hcc2
        clear hcc hcc2
        by_cases hli : l = i
        · have b1 : ((l : Int) == i) = true := by simp; omega
          have HHEAP := hid (show isHeap L2 from dn_done HDA.out (fun h => by have := HCC.out (2 * i + 1) (by omega) (by omega) (by omega); rwa [hli] at this) (fun h => by have := HCC.out (2 * i + 2) (by omega) (by omega) (by omega); rwa [hli] at this))
          have HLI := hid hli
          clear hB2 hK2 hli
          by_cases hc4 : c ≤ 2 * i + 2
          · have hc5 : ¬ c < n := fun h => HC.out ⟨hc4, h⟩
            go_wp2
            refine bodyPost_ret (v := .tuple #[]) (by simp [results, Tryz.results65]) rfl ?_
            exact ⟨rfl, L2, HB2.out, HPM.out, HHEAP.out, HK2.out⟩
          · go_wp2
            refine bodyPost_ret (v := .tuple #[]) (by simp [results, Tryz.results65]) rfl ?_
            exact ⟨rfl, L2, HB2.out, HPM.out, HHEAP.out, HK2.out⟩
        · have b1 : ((l : Int) == i) = false := by simp; omega
          obtain ⟨p0, p1, p2, p3, f0, f1, f2, f3⟩ := hB2.at (i := i) (by omega)
          obtain ⟨q0, q1, q2, q3, g0, g1, g2, g3⟩ := hB2.at (i := l) (by omega)
          have hl1 := HL1.out
          have HST := hid (dn_step HDA.out (by omega) (show l < L2.length by omega) (by omega) (HLI0.out hli) (fun h => HCC.out (2 * i + 1) (by omega) (by omega) (by omega)) (fun h => HCC.out (2 * i + 2) (by omega) (by omega) (by omega)))
          clear hB2 hK2
          by_cases hc4 : c ≤ 2 * i + 2
          · have hc5 : ¬ c < n := fun h => HC.out ⟨hc4, h⟩
            go_wp2
            refine wp_region_tree 25 (fun w' => w'.cell? ⟨d, 1, none⟩ = some (.slice (some ⟨b, 0, none⟩) n cap) ∧ w'.cell? ⟨b, i * 4, none⟩ = some (.int .i64 ((at0 L2 i).1)) ∧ w'.cell? ⟨b, i * 4 + 1, none⟩ = some (.int .i64 ((at0 L2 i).2.1)) ∧ w'.cell? ⟨b, i * 4 + 2, none⟩ = some (.int .i64 ((at0 L2 i).2.2.1)) ∧ w'.cell? ⟨b, i * 4 + 3, none⟩ = some (.int .i64 ((at0 L2 i).2.2.2)) ∧ w'.cell? ⟨b, l * 4, none⟩ = some (.int .i64 ((at0 L2 l).1)) ∧ w'.cell? ⟨b, l * 4 + 1, none⟩ = some (.int .i64 ((at0 L2 l).2.1)) ∧ w'.cell? ⟨b, l * 4 + 2, none⟩ = some (.int .i64 ((at0 L2 l).2.2.1)) ∧ w'.cell? ⟨b, l * 4 + 3, none⟩ = some (.int .i64 ((at0 L2 l).2.2.2))) (.q 0 false (.q 1 false (.q 2 false (.q 3 true (.q 4 false (.q 5 false (.q 6 false (.q 7 false (.q 8 true (.q 9 false (.q 10 false (.q 11 false (.q 12 false (.q 13 true (.q 14 false (.q 15 false (.q 16 true (.q 17 false (.q 18 false (.q 19 false (.q 20 true (.q 21 false (.q 22 false (.q 23 true (.one 24 true (.one 25 false (.one 26 false (.one 27 false (.nil))))))))))))))))))))))))))))) (by kernel_rfl) (by kernel_rfl) (by kernel_rfl) ?_ ?_
            · simp [go_sem, ↓IntWalk.iteOmega, *]
            repeat (first | (refine wpTr_qf (v := ?_) rfl rfl ?_ ?_; rotate_left; focus (intro w; go_simp; (try (with_reducible rfl)); done); try simp only [List.getElem_toArray, List.getElem_cons_zero, List.getElem_cons_succ, Act.put, List.setIfInBounds_toArray, List.set_cons_zero, List.set_cons_succ]) | (refine wpTr_qt (v := ?_) rfl rfl ?_ ?_; rotate_left; focus (intro w hSw; (try dsimp only at hSw); go_simp; (try (with_reducible rfl)); done); try simp only [List.getElem_toArray, List.getElem_cons_zero, List.getElem_cons_succ, Act.put, List.setIfInBounds_toArray, List.set_cons_zero, List.set_cons_succ]))
            refine wpTr_one rfl rfl (fun K hK => ?_)
            go_simp
            refine hK.out _ _ (fun _ => by simp [go_sem, ↓IntWalk.iteOmega, *]) ?_
            clear hK K
            refine wpTr_one rfl rfl (fun K hK => ?_)
            go_simp
            refine hK.out _ _ (fun h => by cases h) ?_
            clear hK K
            generalize hW : World.drew (World.setCell (World.setCell (World.setCell (World.setCell wr _ _) _ _) _ _) _ _) = w5
            have hb5 : HX w5 b cap (L2.set i (at0 L2 l)) := by rw [← hW]; exact (HB2.out.put (by omega) (at0 L2 l)).below (Below.rf _).drew
            have hk5 : KeptBut b w w5 := by rw [← hW]; exact KeptBut.below ((((HK2.out.set' _ _).set' _ _).set' _ _).set' _ _) (Below.rf _).drew (by simpa using HK2.out.size)
            have HB5 := hid hb5
            have HK5 := hid hk5
            have lb5 := hb5.lt
            obtain ⟨s0, s1, s2, s3, t0, t1, t2, t3⟩ := hb5.at (i := l) (by rw [List.length_set]; omega)
            clear hW hb5 hk5 p0 p1 p2 p3 q0 q1 q2 q3 f0 f1 f2 f3 g0 g1 g2 g3 lb d2 e2
            refine wpTr_one rfl rfl (fun K hK => ?_)
            go_simp
            refine hK.out _ _ (fun h => by cases h) ?_
            clear hK K
            refine wpTr_one rfl rfl (fun K hK => ?_)
            go_simp
            refine hK.out _ _ (fun h => by cases h) ?_
            clear hK K
            refine wpTr_nil ?_
            refine NoPanic.normal ?_
            go_wp2
            go_roundw
            case rel => exact ⟨l, swp L2 i l, rfl, hl2, HB5.out.put (by rw [List.length_set]; omega) (at0 L2 i), by rw [swp_len]; exact HLN.out, (swp_perm L2 i l (by omega) (by omega)).trans HPM.out, HST.out, (((HK5.out.set' _ _).set' _ _).set' _ _).set' _ _⟩
            case measure => simp [intOf]; omega
          · go_wp2
            refine wp_region_tree 25 (fun w' => w'.cell? ⟨d, 1, none⟩ = some (.slice (some ⟨b, 0, none⟩) n cap) ∧ w'.cell? ⟨b, i * 4, none⟩ = some (.int .i64 ((at0 L2 i).1)) ∧ w'.cell? ⟨b, i * 4 + 1, none⟩ = some (.int .i64 ((at0 L2 i).2.1)) ∧ w'.cell? ⟨b, i * 4 + 2, none⟩ = some (.int .i64 ((at0 L2 i).2.2.1)) ∧ w'.cell? ⟨b, i * 4 + 3, none⟩ = some (.int .i64 ((at0 L2 i).2.2.2)) ∧ w'.cell? ⟨b, l * 4, none⟩ = some (.int .i64 ((at0 L2 l).1)) ∧ w'.cell? ⟨b, l * 4 + 1, none⟩ = some (.int .i64 ((at0 L2 l).2.1)) ∧ w'.cell? ⟨b, l * 4 + 2, none⟩ = some (.int .i64 ((at0 L2 l).2.2.1)) ∧ w'.cell? ⟨b, l * 4 + 3, none⟩ = some (.int .i64 ((at0 L2 l).2.2.2))) (.q 0 false (.q 1 false (.q 2 false (.q 3 true (.q 4 false (.q 5 false (.q 6 false (.q 7 false (.q 8 true (.q 9 false (.q 10 false (.q 11 false (.q 12 false (.q 13 true (.q 14 false (.q 15 false (.q 16 true (.q 17 false (.q 18 false (.q 19 false (.q 20 true (.q 21 false (.q 22 false (.q 23 true (.one 24 true (.one 25 false (.one 26 false (.one 27 false (.nil))))))))))))))))))))))))))))) (by kernel_rfl) (by kernel_rfl) (by kernel_rfl) ?_ ?_
            · simp [go_sem, ↓IntWalk.iteOmega, *]
            repeat (first | (refine wpTr_qf (v := ?_) rfl rfl ?_ ?_; rotate_left; focus (intro w; go_simp; (try (with_reducible rfl)); done); try simp only [List.getElem_toArray, List.getElem_cons_zero, List.getElem_cons_succ, Act.put, List.setIfInBounds_toArray, List.set_cons_zero, List.set_cons_succ]) | (refine wpTr_qt (v := ?_) rfl rfl ?_ ?_; rotate_left; focus (intro w hSw; (try dsimp only at hSw); go_simp; (try (with_reducible rfl)); done); try simp only [List.getElem_toArray, List.getElem_cons_zero, List.getElem_cons_succ, Act.put, List.setIfInBounds_toArray, List.set_cons_zero, List.set_cons_succ]))
            refine wpTr_one rfl rfl (fun K hK => ?_)
            go_simp
            refine hK.out _ _ (fun _ => by simp [go_sem, ↓IntWalk.iteOmega, *]) ?_
            clear hK K
            refine wpTr_one rfl rfl (fun K hK => ?_)
            go_simp
            refine hK.out _ _ (fun h => by cases h) ?_
            clear hK K
            generalize hW : World.drew (World.setCell (World.setCell (World.setCell (World.setCell wr _ _) _ _) _ _) _ _) = w5
            have hb5 : HX w5 b cap (L2.set i (at0 L2 l)) := by rw [← hW]; exact (HB2.out.put (by omega) (at0 L2 l)).below (Below.rf _).drew
            have hk5 : KeptBut b w w5 := by rw [← hW]; exact KeptBut.below ((((HK2.out.set' _ _).set' _ _).set' _ _).set' _ _) (Below.rf _).drew (by simpa using HK2.out.size)
            have HB5 := hid hb5
            have HK5 := hid hk5
            have lb5 := hb5.lt
            obtain ⟨s0, s1, s2, s3, t0, t1, t2, t3⟩ := hb5.at (i := l) (by rw [List.length_set]; omega)
            clear hW hb5 hk5 p0 p1 p2 p3 q0 q1 q2 q3 f0 f1 f2 f3 g0 g1 g2 g3 lb d2 e2
            refine wpTr_one rfl rfl (fun K hK => ?_)
            go_simp
            refine hK.out _ _ (fun h => by cases h) ?_
            clear hK K
            refine wpTr_one rfl rfl (fun K hK => ?_)
            go_simp
            refine hK.out _ _ (fun h => by cases h) ?_
            clear hK K
            refine wpTr_nil ?_
            refine NoPanic.normal ?_
            go_wp2
            go_roundw
            case rel => exact ⟨l, swp L2 i l, rfl, hl2, HB5.out.put (by rw [List.length_set]; omega) (at0 L2 i), by rw [swp_len]; exact HLN.out, (swp_perm L2 i l (by omega) (by omega)).trans HPM.out, HST.out, (((HK5.out.set' _ _).set' _ _).set' _ _).set' _ _⟩
            case measure => simp [intOf]; omega
end Go.Proofs.Qxb6500717aGreat
