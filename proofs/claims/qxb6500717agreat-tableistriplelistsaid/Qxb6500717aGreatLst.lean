/-
  What a table lists: its triples and its spans; Removable.
-/
import Derived.Test.Qxb6500717aGreatOrd
import Derived.Test.Qxb6500717aGreatHp2
namespace Go.Proofs.Qxb6500717aGreat
open Go.RowKit
set_option linter.unusedSimpArgs false
set_option linter.unusedVariables false

/-- The robot's triples at n ticks from t on. -/
def TabS.tripR (T : TabS) (r : Nat) : Nat → Nat → List (Nat × Nat × Nat)
  | _, 0 => []
  | t, n + 1 => if T.pl r (t % 256) = -1 then T.tripR r (t + 1) n else (r, (T.pl r (t % 256)).toNat, t) :: T.tripR r (t + 1) n
/-- Those of n robots from k on. -/
def TabS.tripN (T : TabS) : Nat → Nat → List (Nat × Nat × Nat)
  | _, 0 => []
  | k, n + 1 => T.tripR k T.base 256 ++ T.tripN (k + 1) n
def TabS.trips (T : TabS) : List (Nat × Nat × Nat) := T.tripN 0 T.nr
/-- The spans of n robots from k on. -/
def TabS.spanN (T : TabS) : Nat → Nat → List (Nat × Nat × Nat × Nat)
  | _, 0 => []
  | k, n + 1 => (T.sp k).map (fun x => (k, x)) ++ T.spanN (k + 1) n
def TabS.spans (T : TabS) : List (Nat × Nat × Nat × Nat) := T.spanN 0 T.nr
def qrow (l : List (Nat × Nat × Nat × Nat)) : List Value := l.flatMap fun x => [.int .i64 (x.1), .int .i64 (x.2.1), .int .i64 (x.2.2.1), .int .i64 (x.2.2.2)]
theorem qrow_len (l : List (Nat × Nat × Nat × Nat)) : (qrow l).length = 4 * l.length := by
  induction l with
  | nil => rfl
  | cons x l ih => simp [qrow] at ih ⊢; omega
theorem qrow_app (l m : List (Nat × Nat × Nat × Nat)) : qrow (l ++ m) = qrow l ++ qrow m := by simp [qrow]
theorem qrow_at (l : List (Nat × Nat × Nat × Nat)) (k : Nat) (x : Nat × Nat × Nat × Nat) (h : l[k]? = some x) : (qrow l)[4 * k]? = some (.int .i64 (x.1)) ∧ (qrow l)[4 * k + 1]? = some (.int .i64 (x.2.1)) ∧ (qrow l)[4 * k + 2]? = some (.int .i64 (x.2.2.1)) ∧ (qrow l)[4 * k + 3]? = some (.int .i64 (x.2.2.2)) := by
  induction l generalizing k with
  | nil => simp at h
  | cons y l ih =>
    cases k with
    | zero => simp at h; subst h; exact ⟨rfl, rfl, rfl, rfl⟩
    | succ k =>
      have := ih k (by simpa using h)
      rw [show 4 * (k + 1) = 4 * k + 4 by omega, show 4 * k + 4 + 1 = 4 * k + 1 + 4 by omega, show 4 * k + 4 + 2 = 4 * k + 2 + 4 by omega, show 4 * k + 4 + 3 = 4 * k + 3 + 4 by omega]
      exact this

/-- A list that was made behind base. -/
def LAt (w : World) (base : Nat) (v : Value) (n : Nat) (vs : List Value) : Prop :=
  ∃ (ao : Option Addr) (cap : Nat), v = .slice ao n cap ∧ n ≤ cap ∧ (n = 0 ∨ ∃ b, ao = some ⟨b, 0, none⟩ ∧ base ≤ b ∧ b < w.heap.size ∧ ∀ i u, vs[i]? = some u → w.cell? ⟨b, i, none⟩ = some u)
theorem LAt.of {w w' : World} {base n : Nat} {v : Value} {vs : List Value} (h : LAt w base v n vs) (hs : w.heap.size ≤ w'.heap.size) (hb : ∀ j, base ≤ j → j < w.heap.size → w'.heap[j]? = w.heap[j]?) : LAt w' base v n vs := by
  obtain ⟨ao, cap, h1, h2, h3⟩ := h
  refine ⟨ao, cap, h1, h2, ?_⟩
  rcases h3 with h3 | ⟨b, e, h4, h5, h6⟩
  · exact Or.inl h3
  · exact Or.inr ⟨b, e, h4, by omega, fun i u hu => by rw [World.cell?_of_block (hb b h4 h5)]; exact h6 i u hu⟩
theorem LAt.below {w w' : World} {base n : Nat} {v : Value} {vs : List Value} (h : LAt w base v n vs) (hb : Below w.heap.size w w') : LAt w' base v n vs := h.of hb.size (fun j _ hj => hb.block j hj)
theorem LAt.own {w : World} {base n sz : Nat} {e : TypeId} {v : Value} {vs : List Value} (h : w.ownsRow base e sz v n vs) : LAt w base v n vs := by
  obtain ⟨h1, h2⟩ := h
  rcases h2 with ⟨h2, h3⟩ | ⟨g, cap, cur, hv, hg, hh, hnc, _, hsz, ht⟩
  · subst h3
    exact ⟨none, 0, h2, by omega, Or.inl rfl⟩
  · refine ⟨_, cap, hv, hnc, Or.inr ⟨g, rfl, hg, (Array.getElem?_eq_some_iff.1 hh).1, fun i u hu => ?_⟩⟩
    rw [cell_of_row w g i cur e (0, 0) hh, ← Array.getElem?_toList]
    rw [← ht, List.getElem?_take] at hu
    split at hu
    · exact hu
    · cases hu
theorem ownsRow_below {w w' : World} {base n sz : Nat} {e : TypeId} {v : Value} {vs : List Value} (h : w.ownsRow base e sz v n vs) (hb : Below w.heap.size w w') : w'.ownsRow base e sz v n vs := by
  obtain ⟨h1, h2⟩ := h
  refine ⟨h1, ?_⟩
  rcases h2 with h2 | ⟨g, cap, cur, hv, hg, hh, r⟩
  · exact Or.inl h2
  · exact Or.inr ⟨g, cap, cur, hv, hg, by rw [hb.block g (Array.getElem?_eq_some_iff.1 hh).1]; exact hh, r⟩

def tripsPost (xs : List (Nat × Nat × Nat)) (w : World) (e : Ending) (w' : World) : Prop :=
  ∃ v, e = .returned v ∧ LAt w' w.heap.size v xs.length (srow xs) ∧ Below w.heap.size w w'

set_option maxRecDepth 20000 in
set_option maxHeartbeats 4000000 in
theorem trips_any (M : TabM) (T : TabS) (lab : Nat → Nat) (w : World) (h : TAt w lab M T) : Calls Tryz.prog 59 #[.pointer (some ⟨M.t, 0, none⟩)] w (tripsPost T.trips w) := by
  have HH := hid h
  have hnr := h.bd.nr
  have hbb := h.bd.base
  obtain ⟨L, hL⟩ : ∃ L, T.trips = L := ⟨_, rfl⟩
  rw [hL]
  have HL := hid hL
  clear h hL
  go_enter Tryz.func59, Tryz.ntmps59
  go_wp2
  go_loopw [3, 4] (fun v x wr => ∃ (k : Nat) (xs : List (Nat × Nat × Nat)), x = .int .i64 (k) ∧ k ≤ T.nr ∧ xs ++ T.tripN k (T.nr - k) = L ∧ xs.length ≤ 256 * k ∧ wr.ownsRow w.heap.size 84 3 v xs.length (srow xs) ∧ Below w.heap.size w wr) (fun _ x _ => T.nr - (intOf x).toNat)
  case atStart => exact ⟨0, [], rfl, by omega, HL.out, by simp, ⟨rfl, Or.inl ⟨rfl, rfl⟩⟩, Below.rf _⟩
  case round =>
    obtain ⟨k, xs, rfl, hk, hxs, hxl, hown, hB⟩ := hrel
    have HXS := hid hxs
    have HOWN := hid hown
    have HB := hid hB
    have HT := HH.out.below hB
    have c1 := HT.c1
    have c3 := HT.c3
    have l1 := HT.bt.lt
    clear hxs hown hB
    by_cases hlt : k < T.nr
    · clear HT
      go_wp2
      go_loopw [3, 5] (fun v x wz => ∃ (t : Nat) (ys : List (Nat × Nat × Nat)), x = .int .i64 (t) ∧ T.base ≤ t ∧ t ≤ T.base + 256 ∧ ys ++ (T.tripR k t (T.base + 256 - t) ++ T.tripN (k + 1) (T.nr - (k + 1))) = L ∧ ys.length ≤ 256 * k + (t - T.base) ∧ wz.ownsRow w.heap.size 84 3 v ys.length (srow ys) ∧ Below w.heap.size w wz) (fun _ x _ => T.base + 256 - (intOf x).toNat)
      case atStart =>
        refine ⟨T.base, xs, rfl, by omega, by omega, ?_, by omega, HOWN.out, HB.out⟩
        have := HXS.out
        rw [show T.nr - k = T.nr - (k + 1) + 1 by omega] at this
        rw [show T.base + 256 - T.base = 256 by omega]
        exact this
      case round =>
        clear c1 c3 l1
        obtain ⟨t, ys, rfl, ht1, ht2, hys, hyl, hown2, hB2⟩ := hrel
        have HT := HH.out.below hB2
        have EN := hid (end_any M T lab _ HT)
        have c6 := HT.c6
        have l1 := HT.bt.lt
        have l2 := HT.bp.lt
        have l3 := (HT.bpr k hlt).lt
        have cp := HT.bp.is k hlt
        have HOWN2 := hid hown2
        have HB2 := hid hB2
        by_cases hlt2 : t < T.base + 256
        · have hand := and255 t (by omega)
          obtain ⟨sl, hsl⟩ : ∃ sl, t % 256 = sl := ⟨_, rfl⟩
          have hsl2 : sl < 256 := by omega
          rw [show T.base + 256 - t = T.base + 256 - (t + 1) + 1 by omega] at hys
          simp only [TabS.tripR] at hys
          rw [hsl] at hand hys
          have cq := (HT.bpr k hlt).is sl hsl2
          have hpb := HT.bd.pl k sl hlt hsl2
          obtain ⟨pv, hpv⟩ : ∃ pv, T.pl k sl = pv := ⟨_, rfl⟩
          rw [hpv] at cq hpb hys
          have bk : decide ((t : Int) < (T.base : Int) + 256) = true := by simp; omega
          by_cases hm : pv = -1
          · rw [if_pos hm] at hys
            rw [hm] at cq
            have HE := hid hys
            clear hpb hpv hm hsl hys HT hown2 hB2
            go_wp2_with (go_at_call 66; refine EN.out.mono ?_; rintro e w' ⟨rfl, hw'⟩; obtain rfl := hw')
            go_roundw
            case rel => exact ⟨t + 1, ys, by go_num, by omega, by omega, HE.out, by omega, HOWN2.out, HB2.out⟩
            case measure => simp [intOf]; omega
          · rw [if_neg hm] at hys
            obtain ⟨pn, rfl⟩ := Int.eq_ofNat_of_zero_le (show 0 ≤ pv by omega)
            have b1 : ((pn : Int) != -1) = true := by simp
            have b2 : ((pn : Int) == -1) = false := by simp
            have hnc := HH.out.bd.nc
            have hpn : pn < 150 := by omega
            rw [Int.toNat_natCast] at hys
            have HE := hid hys
            have sb := hB2.size
            clear hpb hpv hm hsl hys HT hown2 hB2
            go_wp2_with (first | (go_at_call 66; refine EN.out.mono ?_; rintro e w' ⟨rfl, hw'⟩; obtain rfl := hw') | (at_builtin; refine hold ?_))
            unfold Hid
            refine wp_app rfl _ _ 27 rfl w.heap.size 84 (.agg #[.int .i64 (0), .int .i64 (0), .int .i64 (0)]) 3 24 Tryz.underlying27 (by kernel_rfl) rfl (by decide) _ ys.length (srow ys) rfl (ownsRow_below HOWN2.out (by (repeat (first | with_reducible exact Below.rf _ | with_reducible exact World.below_ext _ _ | with_reducible refine Below.ex ?_ _ | with_reducible refine Below.al ?_ _ | with_reducible refine Below.setCell ?_ (by simp) _ | with_reducible refine Below.drew ?_)))) _ 0 1 1 [.int .i64 (k), .int .i64 (pn), .int .i64 (t)] rfl rfl ?_ (by simp [Value.oneCell']) (by omega) (by omega) ?_ ?_
            · intro j u hj
              have hj2 := (List.getElem?_eq_some_iff.1 hj).1
              simp at hj2
              rcases (by omega : j = 0 ∨ j = 1 ∨ j = 2) with rfl | rfl | rfl <;> simp at hj <;> subst hj <;> simp [go_sem, ↓IntWalk.iteOmega]
            · simp; omega
            · intro v' w5 ho5 hb5
              have HO5 := hid ho5
              have HB5 := hid (HB2.out.trans (Below.trans (by (refine Below.mono (B := (World.heap _).size) ?_ sb; (repeat (first | with_reducible exact Below.rf _ | with_reducible exact World.below_ext _ _ | with_reducible refine Below.ex ?_ _ | with_reducible refine Below.al ?_ _ | with_reducible refine Below.setCell ?_ (by simp) _ | with_reducible refine Below.drew ?_)))) hb5))
              clear ho5 hb5
              go_wp2
              go_roundw
              case rel =>
                refine ⟨t + 1, ys ++ [(k, pn, t)], by go_num, by omega, by omega, ?_, by simp; omega, ?_, HB5.out⟩
                · rw [List.append_assoc, List.singleton_append]; exact HE.out
                · rw [List.length_append, srow_app]; exact HO5.out
              case measure => simp [intOf]; omega
        · rw [show T.base + 256 - t = 0 by omega] at hys
          simp only [TabS.tripR, List.nil_append] at hys
          have HE := hid hys
          have bk : decide ((t : Int) < (T.base : Int) + 256) = false := by simp; omega
          clear HT hown2 hB2 hys
          go_wp2_with (go_at_call 66; refine EN.out.mono ?_; rintro e w' ⟨rfl, hw'⟩; obtain rfl := hw')
          go_roundw
          case rel => exact ⟨k + 1, ys, by go_num, by omega, HE.out, by omega, HOWN2.out, HB2.out⟩
          case measure => simp [intOf]; omega
    · have HE := hid (show xs = L by have := HXS.out; rw [show T.nr - k = 0 by omega] at this; simpa [TabS.tripN] using this)
      clear HT
      go_wp2
      go_ret
      exact ⟨_, rfl, by rw [← HE.out]; exact LAt.own HOWN.out, HB.out⟩

def spansPost (xs : List (Nat × Nat × Nat × Nat)) (w : World) (e : Ending) (w' : World) : Prop :=
  ∃ v, e = .returned v ∧ LAt w' w.heap.size v xs.length (qrow xs) ∧ Below w.heap.size w w'
set_option maxRecDepth 20000 in
set_option maxHeartbeats 4000000 in
theorem spans_any (M : TabM) (T : TabS) (lab : Nat → Nat) (w : World) (h : TAt w lab M T) : Calls Tryz.prog 60 #[.pointer (some ⟨M.t, 0, none⟩)] w (spansPost T.spans w) := by
  have HH := hid h
  have hnr := h.bd.nr
  have hbb := h.bd.base
  have c7 := h.c7
  have hl1 := h.bt.lt
  obtain ⟨L, hL⟩ : ∃ L, T.spans = L := ⟨_, rfl⟩
  rw [hL]
  have HL := hid hL
  clear h hL
  go_enter Tryz.func60, Tryz.ntmps60
  go_wp2
  go_loopw [3, 13] (fun v x wr => ∃ (k : Nat) (xs : List (Nat × Nat × Nat × Nat)), x = .int .i64 (k) ∧ k ≤ T.nr ∧ xs ++ T.spanN k (T.nr - k) = L ∧ xs.length ≤ 1536 * k ∧ wr.ownsRow w.heap.size 86 4 v xs.length (qrow xs) ∧ Below w.heap.size w wr) (fun _ x _ => T.nr - (intOf x).toNat)
  case atStart => exact ⟨0, [], rfl, by omega, HL.out, by simp, ⟨rfl, Or.inl ⟨rfl, rfl⟩⟩, Below.rf _⟩
  case round =>
    clear c7 hl1
    obtain ⟨k, xs, rfl, hk, hxs, hxl, hown, hB⟩ := hrel
    have HXS := hid hxs
    have HOWN := hid hown
    have HB := hid hB
    by_cases hlt : k < T.nr
    · have HT := HH.out.below hB
      have l1 := HT.bs.lt
      have cs := HT.bs.is k hlt
      have hsp := HT.bsr k hlt
      obtain ⟨ao, cap, hv⟩ := hsp.val
      obtain ⟨n, hn⟩ : ∃ n, (T.sp k).length = n := ⟨_, rfl⟩
      have hn2 := HT.bd.ln k hlt
      rw [hn] at hv hn2
      rw [hv] at cs
      have HV := hid hv
      have HNN := hid hn
      have HBD := hid HT.bd
      clear HT hxs hown hB hsp hv hn
      go_wp2
      go_loopw [3, 20] (fun v x wz => ∃ (i : Nat) (ys : List (Nat × Nat × Nat × Nat)), x = .int .i64 (i) ∧ i ≤ n ∧ ys ++ (((T.sp k).drop i).map (fun x => (k, x)) ++ T.spanN (k + 1) (T.nr - (k + 1))) = L ∧ ys.length ≤ 1536 * k + i ∧ wz.ownsRow w.heap.size 86 4 v ys.length (qrow ys) ∧ Below w.heap.size w wz) (fun _ x _ => n - (intOf x).toNat)
      case atStart =>
        refine ⟨0, xs, rfl, by omega, ?_, by omega, HOWN.out, HB.out⟩
        have := HXS.out
        rw [show T.nr - k = T.nr - (k + 1) + 1 by omega] at this
        exact this
      case round =>
        clear cs l1
        obtain ⟨i, ys, rfl, hi, hys, hyl, hown2, hB2⟩ := hrel
        have HOWN2 := hid hown2
        have HB2 := hid hB2
        by_cases hlt2 : i < n
        · have hkl : i < (T.sp k).length := by rw [HNN.out]; exact hlt2
          have hx : (T.sp k)[i]? = some (T.sp k)[i] := List.getElem?_eq_getElem hkl
          rw [List.drop_eq_getElem_cons hkl] at hys
          have hxb := HBD.out.sp k _ hlt (List.getElem_mem hkl)
          generalize (T.sp k)[i] = x at hx hys hxb
          have hspz := (HH.out.below hB2).bsr k hlt
          rw [HV.out] at hspz
          obtain ⟨b, cap', hv, hlc, hbl, q1, q2, q3⟩ := hspz.at i x hx
          simp only [Value.slice.injEq] at hv
          obtain ⟨rfl, -, rfl⟩ := hv
          rw [HNN.out] at hlc
          rw [show 3 * i = i * 3 by omega] at q1 q2 q3
          rw [List.map_cons, List.cons_append] at hys
          have HE := hid hys
          have sb := hB2.size
          clear hx hys hown2 hB2 hspz
          go_wp2_with (at_builtin; refine hold ?_)
          unfold Hid
          refine wp_app rfl _ _ 28 rfl w.heap.size 86 (.agg #[.int .i64 (0), .int .i64 (0), .int .i64 (0), .int .i64 (0)]) 4 32 Tryz.underlying28 (by kernel_rfl) rfl (by decide) _ ys.length (qrow ys) rfl (ownsRow_below HOWN2.out (by (repeat (first | with_reducible exact Below.rf _ | with_reducible exact World.below_ext _ _ | with_reducible refine Below.ex ?_ _ | with_reducible refine Below.al ?_ _ | with_reducible refine Below.setCell ?_ (by simp) _ | with_reducible refine Below.drew ?_)))) _ 0 1 1 [.int .i64 (k), .int .i64 (x.1), .int .i64 (x.2.1), .int .i64 (x.2.2)] rfl rfl ?_ (by simp [Value.oneCell']) (by omega) (by omega) ?_ ?_
          · intro j u hj
            have hj2 := (List.getElem?_eq_some_iff.1 hj).1
            simp at hj2
            rcases (by omega : j = 0 ∨ j = 1 ∨ j = 2 ∨ j = 3) with rfl | rfl | rfl | rfl <;> simp at hj <;> subst hj <;> simp [go_sem, ↓IntWalk.iteOmega]
          · simp; omega
          · intro v' w5 ho5 hb5
            have HO5 := hid ho5
            have HB5 := hid (HB2.out.trans (Below.trans (by (refine Below.mono (B := (World.heap _).size) ?_ sb; (repeat (first | with_reducible exact Below.rf _ | with_reducible exact World.below_ext _ _ | with_reducible refine Below.ex ?_ _ | with_reducible refine Below.al ?_ _ | with_reducible refine Below.setCell ?_ (by simp) _ | with_reducible refine Below.drew ?_)))) hb5))
            clear ho5 hb5
            go_wp2
            go_roundw
            case rel =>
              refine ⟨i + 1, ys ++ [(k, x)], by go_num, by omega, ?_, by simp; omega, ?_, HB5.out⟩
              · rw [List.append_assoc, List.singleton_append]; exact HE.out
              · rw [List.length_append, qrow_app]; exact HO5.out
            case measure => simp [intOf]; omega
        · have hnil : (T.sp k).drop i = [] := List.drop_eq_nil_of_le (by rw [HNN.out]; omega)
          rw [hnil, List.map_nil, List.nil_append] at hys
          have HE := hid hys
          clear hys hown2 hB2
          go_wp2
          go_roundw
          case rel => exact ⟨k + 1, ys, by go_num, by omega, HE.out, by omega, HOWN2.out, HB2.out⟩
          case measure => simp [intOf]; omega
    · have HE := hid (show xs = L by have := HXS.out; rw [show T.nr - k = 0 by omega] at this; simpa [TabS.spanN] using this)
      clear hxs hown hB
      go_wp2
      go_ret
      exact ⟨_, rfl, by rw [← HE.out]; exact LAt.own HOWN.out, HB.out⟩
end Go.Proofs.Qxb6500717aGreat
