/-
  One step of the desk, whatever it is; the script in memory; what 'look' hands back.
-/
import Derived.Test.Qxb6500717aGreatDo2
import Derived.Test.Qxb6500717aGreatDo5
import Derived.Test.Qxb6500717aGreatCnt
namespace Go.Proofs.Qxb6500717aGreat
open Go.RowKit
set_option linter.unusedSimpArgs false
set_option linter.unusedVariables false
set_option maxRecDepth 20000
set_option maxHeartbeats 4000000

/-- A step of a script. -/
structure Opr where
  K : Int
  A : Int
  B : Int
  C : Int
  D : Int
  L : List Int
/-- What a step on a table answers and leaves. -/
def TabS.step (T : TabS) (o : Opr) : Int × TabS :=
  if o.K = 1 then (T.advC o.C, T.advT o.C)
  else if o.K = 2 then T.reserve o.A o.B o.C
  else if o.K = 3 then ((TabS.path o.A o.C o.L 0 T).1, (TabS.path o.A o.C o.L 0 T).2.2)
  else if o.K = 4 then T.stand o.A o.B o.C
  else if o.K = 5 then T.cutT o.A T.base
  else if o.K = 6 then T.cutT o.A o.C
  else if 7 ≤ o.K ∧ o.K ≤ 13 then (0, T)
  else (2, T)
/-- What a step answers (but for those on heap and marks) and leaves. -/
def stepO (O : Option TabS) (o : Opr) : Int × Option TabS :=
  if o.K = 0 then stepNew O o.A o.B o.C
  else if 14 ≤ o.K ∧ o.K ≤ 23 then (0, O)
  else match O with
    | none => (1, none)
    | some T => ((T.step o).1, some (T.step o).2)
def codeP (O : Option TabS) (o : Opr) (c : Int) : Prop := ¬ (14 ≤ o.K ∧ o.K ≤ 23) → c = (stepO O o).1

theorem doPost.mono {lab : Nat → Nat} {d k : Nat} {C C' : Int → Prop} {O O' : Option TabS} {w : World} (hc : ∀ c, C c → C' c) (hO : O = O') {e : Ending} {w' : World} (h : doPost lab d k C O w e w') : doPost lab d k C' O' w e w' := by
  subst hO
  obtain ⟨c, v, lab', h1, hv, h2, h3⟩ := h
  exact ⟨c, v, lab', h1, hv, hc c h2, h3⟩

/-- The step's arguments in memory. -/
structure OprAt (w : World) (lab : Nat → Nat) (o : Opr) (ao : Option Addr) (n : Nat) : Prop where
  hC : -9223372036854775808 ≤ o.C ∧ o.C ≤ 9223372036854775807
  hn : o.L.length = n
  hn2 : n ≤ 100000
  hrow : ∀ (i : Nat) (c : Int), o.L[i]? = some c → ∃ b a, ao = some ⟨b, a, none⟩ ∧ b < w.heap.size ∧ lab b = 0 ∧ w.cell? ⟨b, a + i, none⟩ = some (.int .i64 (c))

theorem do_any (o : Opr) (ao : Option Addr) (n cap : Nat) (lab : Nat → Nat) (d k : Nat) (O : Option TabS) (w : World) (h : Desk w lab d k O) (hk : k ≤ 900000) (ha : OprAt w lab o ao n) :
    Calls Tryz.prog 6 #[.pointer (some ⟨d, 0, none⟩), .agg #[.int .i64 (o.K), .int .i64 (o.A), .int .i64 (o.B), .int .i64 (o.C), .int .i64 (o.D), .slice ao n cap]] w (doPost lab d k (codeP O o) (stepO O o).2 w) := by
  obtain ⟨K, A, B, C, D, L⟩ := o
  have hC := ha.hC
  simp only at hC ⊢
  by_cases h0 : K = 0
  · subst h0
    refine (do_init A B C D ao n cap lab d k O w h).mono (fun e w' hp => hp.mono (fun c hc _ => hc) ?_)
    simp [stepO]
  by_cases h14 : 14 ≤ K ∧ K ≤ 23
  · have eO : (stepO O ⟨K, A, B, C, D, L⟩).2 = O := by simp only [stepO]; rw [if_neg h0, if_pos h14]
    rw [eO]
    have fin : ∀ e w', doPost lab d k (fun _ => True) O w e w' → doPost lab d k (codeP O ⟨K, A, B, C, D, L⟩) O w e w' := fun e w' hp => hp.mono (fun c _ hn => absurd h14 hn) rfl
    rcases (by omega : K = 14 ∨ K = 15 ∨ K = 16 ∨ K = 17 ∨ K = 18 ∨ K = 19 ∨ K = 20 ∨ K = 21 ∨ K = 22 ∨ K = 23) with rfl | rfl | rfl | rfl | rfl | rfl | rfl | rfl | rfl | rfl
    · exact (do_push A B C D ao n cap lab d k O w h hk).mono fin
    · exact (do_pop A B C D ao n cap lab d k O w h hk).mono fin
    · exact (do_peek A B C D ao n cap lab d k O w h hk).mono fin
    · exact (do_hlen A B C D ao n cap lab d k O w h hk).mono fin
    · exact (do_hreset A B C D ao n cap lab d k O w h hk).mono fin
    · exact (do_minit A B C D ao n cap lab d k O w h hk).mono fin
    · exact (do_mark A B C D ao n cap lab d k O w h hk).mono fin
    · exact (do_look A B C D ao n cap lab d k O w h hk).mono fin
    · exact (do_mcount A B C D ao n cap lab d k O w h hk).mono fin
    · exact (do_mclear A B C D ao n cap lab d k O w h hk).mono fin
  cases O with
  | none =>
    have eO : stepO none ⟨K, A, B, C, D, L⟩ = (1, none) := by simp only [stepO]; rw [if_neg h0, if_neg h14]
    refine (do_none K A B C D ao n cap lab d k w h ⟨h0, h14⟩).mono (fun e w' hp => hp.mono (fun c hc _ => by rw [eO]; exact hc) (by rw [eO]))
  | some T =>
    have eO : stepO (some T) ⟨K, A, B, C, D, L⟩ = ((T.step ⟨K, A, B, C, D, L⟩).1, some (T.step ⟨K, A, B, C, D, L⟩).2) := by simp only [stepO]; rw [if_neg h0, if_neg h14]
    have fin : ∀ (x : Int × TabS), T.step ⟨K, A, B, C, D, L⟩ = x → ∀ e w', doPost lab d k (fun c => c = x.1) (some x.2) w e w' → doPost lab d k (codeP (some T) ⟨K, A, B, C, D, L⟩) (stepO (some T) ⟨K, A, B, C, D, L⟩).2 w e w' := by
      intro x hx e w' hp
      refine hp.mono (fun c hc _ => ?_) ?_
      · rw [eO, hx]; exact hc
      · rw [eO, hx]
    by_cases hl : 1 ≤ K ∧ K ≤ 13
    · rcases (by omega : K = 1 ∨ K = 2 ∨ K = 3 ∨ K = 4 ∨ K = 5 ∨ K = 6 ∨ K = 7 ∨ K = 8 ∨ K = 9 ∨ K = 10 ∨ K = 11 ∨ K = 12 ∨ K = 13) with rfl | rfl | rfl | rfl | rfl | rfl | rfl | rfl | rfl | rfl | rfl | rfl | rfl
      · exact (do_adv A B C D ao n cap lab d k T w h).mono (fin (T.advC C, T.advT C) (by simp [TabS.step]))
      · exact (do_reserve A B C D ao n cap lab d k T w h).mono (fin (T.reserve A B C) (by simp [TabS.step]))
      · exact (do_path A B C D ao n cap lab d k T w h L ha.hn ha.hn2 hC ha.hrow).mono (fin ((TabS.path A C L 0 T).1, (TabS.path A C L 0 T).2.2) (by simp [TabS.step]))
      · exact (do_stand A B C D ao n cap lab d k T w h).mono (fin (T.stand A B C) (by simp [TabS.step]))
      · exact (do_release A B C D ao n cap lab d k T w h).mono (fin (T.cutT A T.base) (by simp [TabS.step]))
      · exact (do_trunc A B C D ao n cap lab d k T w h hC.2).mono (fin (T.cutT A C) (by simp [TabS.step]))
      · exact (do_hold A B C D ao n cap lab d k T w h).mono (fin (0, T) (by simp [TabS.step]))
      · exact (do_at A B C D ao n cap lab d k T w h).mono (fin (0, T) (by simp [TabS.step]))
      · exact (do_freeC A B C D ao n cap lab d k T w h).mono (fin (0, T) (by simp [TabS.step]))
      · exact (do_freeM A B C D ao n cap lab d k T w h).mono (fin (0, T) (by simp [TabS.step]))
      · exact (do_freeF A B C D ao n cap lab d k T w h).mono (fin (0, T) (by simp [TabS.step]))
      · exact (do_held A B C D ao n cap lab d k T w h).mono (fin (0, T) (by simp [TabS.step]))
      · exact (do_remov A B C D ao n cap lab d k T w h hC.2).mono (fin (0, T) (by simp [TabS.step]))
    · refine (do_else K A B C D ao n cap lab d k T w h (by omega)).mono (fin (2, T) ?_)
      simp only [TabS.step]
      rw [if_neg (by omega), if_neg (by omega), if_neg (by omega), if_neg (by omega), if_neg (by omega), if_neg (by omega), if_neg (by omega)]

/-! the script -/
structure Scr (w : World) (sb so n : Nat) (o : Nat → Opr) (lao : Nat → Option Addr) (llen lcap : Nat → Nat) : Prop where
  hsb : sb < w.heap.size
  cells : ∀ i, i < n → w.cell? ⟨sb, so + i * 6, none⟩ = some (.int .i64 ((o i).K)) ∧ w.cell? ⟨sb, so + i * 6 + 1, none⟩ = some (.int .i64 ((o i).A)) ∧ w.cell? ⟨sb, so + i * 6 + 2, none⟩ = some (.int .i64 ((o i).B)) ∧ w.cell? ⟨sb, so + i * 6 + 3, none⟩ = some (.int .i64 ((o i).C)) ∧ w.cell? ⟨sb, so + i * 6 + 4, none⟩ = some (.int .i64 ((o i).D)) ∧ w.cell? ⟨sb, so + i * 6 + 5, none⟩ = some (.slice (lao i) (llen i) (lcap i))
  hC : ∀ i, i < n → -9223372036854775808 ≤ (o i).C ∧ (o i).C ≤ 9223372036854775807
  hA : ∀ i, i < n → -9223372036854775808 ≤ (o i).A ∧ (o i).A ≤ 9223372036854775807
  hB : ∀ i, i < n → -9223372036854775808 ≤ (o i).B ∧ (o i).B ≤ 9223372036854775807
  hn : ∀ i, i < n → (o i).L.length = llen i
  hrow : ∀ i, i < n → ∀ (j : Nat) (c : Int), (o i).L[j]? = some c → ∃ b a, lao i = some ⟨b, a, none⟩ ∧ b < w.heap.size ∧ w.cell? ⟨b, a + j, none⟩ = some (.int .i64 (c))
  hlen : ∀ i, i < n → llen i ≤ 4611686018427387904
theorem Scr.below {w w' : World} {sb so n : Nat} {o : Nat → Opr} {lao : Nat → Option Addr} {llen lcap : Nat → Nat} (h : Scr w sb so n o lao llen lcap) {B : Nat} (hB : w.heap.size ≤ B) (hb : Below B w w') : Scr w' sb so n o lao llen lcap := by
  have ce : ∀ b i, b < w.heap.size → w'.cell? ⟨b, i, none⟩ = w.cell? ⟨b, i, none⟩ := fun b i hl => World.cell?_of_block (hb.block b (by omega))
  refine ⟨by have := hb.size; have := h.hsb; omega, fun i hi => ?_, h.hC, h.hA, h.hB, h.hn, fun i hi j c hj => ?_, h.hlen⟩
  · simp only [ce sb _ h.hsb]; exact h.cells i hi
  · obtain ⟨b, a, h1, h2, h3⟩ := h.hrow i hi j c hj
    exact ⟨b, a, h1, by have := hb.size; omega, by rw [ce b _ h2]; exact h3⟩

/-- 'zzSmall1': if the answer is yes the script is small. -/
theorem small_any (sb so n cap : Nat) (o : Nat → Opr) (lao : Nat → Option Addr) (llen lcap : Nat → Nat) (w : World) (hS : Scr w sb so n o lao llen lcap) (hn : n ≤ 9223372036854775807) :
    Calls Tryz.prog 4 #[.slice (some ⟨sb, so, none⟩) n cap] w fun e w' => (∃ b, e = .returned (.bool b) ∧ (b = true → n ≤ 65536 ∧ ∀ i, i < n → llen i ≤ 65536)) ∧ w' = w := by
  have HS := hid hS
  have hsb := hS.hsb
  clear hS
  by_cases h1 : 65536 < n
  · go_enter Tryz.func4, Tryz.ntmps4
    go_wp2
    go_ret
    exact ⟨⟨false, rfl, fun h => by cases h⟩, rfl⟩
  have h2 : n ≤ 65536 := by omega
  clear h1
  go_enter Tryz.func4, Tryz.ntmps4
  go_wp2
  go_loopw [3, 4] (fun y x wr => ∃ i s : Nat, x = .int .i64 (i) ∧ y = .int .i64 (s) ∧ i ≤ n ∧ s ≤ 65536 ∧ (∀ j, j < i → llen j ≤ 65536) ∧ wr = w) (fun _ x _ => n - (intOf x).toNat)
  case atStart => exact ⟨0, n, rfl, rfl, by omega, h2, fun j hj => by omega, rfl⟩
  case round =>
    obtain ⟨i, s, rfl, rfl, hi, hs, hall, rfl⟩ := hrel
    have HA := hid hall
    clear hall
    by_cases hlt : i < n
    · obtain ⟨-, -, -, -, -, c5⟩ := HS.out.cells i hlt
      have hl := HS.out.hlen i hlt
      by_cases hbig : 65536 < s + llen i
      · go_wp2
        go_ret
        exact ⟨⟨false, rfl, fun h => by cases h⟩, rfl⟩
      · go_wp2
        go_roundw
        case rel => exact ⟨i + 1, s + llen i, by go_num, by go_num, by omega, by omega, fun j hj => by
          by_cases e : j = i
          · subst e; omega
          · exact HA.out j (by omega), by trivial⟩
        case measure => simp [intOf]; omega
    · go_wp2
      go_ret
      exact ⟨⟨true, rfl, fun _ => ⟨h2, fun j hj => HA.out j (by omega)⟩⟩, rfl⟩

/-! what 'look' hands back -/
theorem LAt.low {w : World} {base base' n : Nat} {v : Value} {vs : List Value} (h : LAt w base v n vs) (hb : base' ≤ base) : LAt w base' v n vs := by
  obtain ⟨ao, cap, h1, h2, h3⟩ := h
  refine ⟨ao, cap, h1, h2, ?_⟩
  rcases h3 with h3 | ⟨b, e, h4, h5⟩
  · exact Or.inl h3
  · exact Or.inr ⟨b, e, by omega, h5⟩
theorem swap_al (w z1 z2 : World) (X Y : Obj) {j : Nat} (hj : w.heap.size + 1 ≤ j) : ((w.alloc Y).ext { z2 with heap := z1.heap ++ z2.heap }).heap[j]? = (((w.alloc X).ext z1).ext z2).heap[j]? := by
  rw [World.ext_ext, World.block_ext_behind _ _ _ (by simp; omega), World.block_ext_behind _ _ _ (by simp; omega)]
  simp
def lookPost (T : TabS) (w : World) (e : Ending) (w' : World) : Prop :=
  ∃ v1 v2, e = .returned (.agg #[.int .i64 (T.held), .int .i64 (T.base), v1, v2]) ∧ LAt w' w.heap.size v1 T.trips.length (srow T.trips) ∧ LAt w' w.heap.size v2 T.spans.length (qrow T.spans) ∧ Below w.heap.size w w'
theorem look_any (M : TabM) (T : TabS) (lab : Nat → Nat) (w : World) (h : TAt w lab M T) : Calls Tryz.prog 9 #[.pointer (some ⟨M.t, 0, none⟩)] w (lookPost T w) := by
  have HT := hid h
  clear h
  go_enter Tryz.func9, Tryz.ntmps9
  go_wp2_with (first | (go_at_call 39; refine (held_any M T lab _ (HT.out.below (by (repeat (first | with_reducible exact Below.rf _ | with_reducible exact World.below_ext _ _ | with_reducible refine Below.ex ?_ _ | with_reducible refine Below.al ?_ _ | with_reducible refine Below.setCell ?_ (by simp) _ | with_reducible refine Below.drew ?_))))).mono ?_; rintro e w' ⟨rfl, rfl⟩) | (go_at_call 41; refine (base_any M T lab _ (HT.out.below (by (repeat (first | with_reducible exact Below.rf _ | with_reducible exact World.below_ext _ _ | with_reducible refine Below.ex ?_ _ | with_reducible refine Below.al ?_ _ | with_reducible refine Below.setCell ?_ (by simp) _ | with_reducible refine Below.drew ?_))))).mono ?_; rintro e w' ⟨rfl, rfl⟩) | (go_at_call 59; refine hold ?_))
  unfold Hid
  refine (trips_any M T lab _ (HT.out.below (by (repeat (first | with_reducible exact Below.rf _ | with_reducible exact World.below_ext _ _ | with_reducible refine Below.ex ?_ _ | with_reducible refine Below.al ?_ _ | with_reducible refine Below.setCell ?_ (by simp) _ | with_reducible refine Below.drew ?_))))).mono ?_
  rintro e w5 ⟨v1, rfl, hl1, hb1⟩
  obtain ⟨z1, rfl⟩ := hb1.is_ext
  have HL1 := hid hl1
  obtain ⟨ao1, cap1, rfl, -⟩ := hl1
  clear hb1
  go_wp2_with (go_at_call 60; refine hold ?_)
  unfold Hid
  refine (spans_any M T lab _ (HT.out.below (by (repeat (first | with_reducible exact Below.rf _ | with_reducible exact World.below_ext _ _ | with_reducible refine Below.ex ?_ _ | with_reducible refine Below.al ?_ _ | with_reducible refine Below.setCell ?_ (by simp) _ | with_reducible refine Below.drew ?_))))).mono ?_
  rintro e w5 ⟨v2, rfl, hl2, hb2⟩
  have HL1b := hid (HL1.out.below hb2)
  obtain ⟨z2, rfl⟩ := hb2.is_ext
  have HL2 := hid hl2
  obtain ⟨ao2, cap2, rfl, -⟩ := hl2
  clear hb2
  go_wp2
  refine bodyPost_ret (v := .agg #[.int .i64 (T.held), .int .i64 (T.base), .slice ao1 T.trips.length cap1, .slice ao2 T.spans.length cap2]) (by simp [results, Tryz.results9, go_sem, ↓IntWalk.iteOmega]) rfl ?_
  refine ⟨_, _, rfl, ?_, ?_, by (repeat (first | with_reducible exact Below.rf _ | with_reducible exact World.below_ext _ _ | with_reducible refine Below.ex ?_ _ | with_reducible refine Below.al ?_ _ | with_reducible refine Below.setCell ?_ (by simp) _ | with_reducible refine Below.drew ?_))⟩
  · exact (HL1b.out.of (by simp) (fun j hj1 hj2 => swap_al _ _ _ _ _ (by simpa using hj1))).low (by simp)
  · exact (HL2.out.of (by simp) (fun j hj1 hj2 => swap_al _ _ _ _ _ (by simp at hj1; omega))).low (by simp; omega)
end Go.Proofs.Qxb6500717aGreat
