/-
  Adopt: the walk.
-/
import Derived.Test.Qxb6500716aLo
import Derived.Test.Qxb6500716aDd
import Derived.Test.Qxb6500716aMa
import Derived.Test.Qxb6500716aCf
namespace Go.Proofs.Qxb6500716a
open Go.RowKit Go.Maps
set_option linter.unusedSimpArgs false
set_option linter.unusedVariables false
set_option maxRecDepth 20000
set_option maxHeartbeats 4000000
/-- The table of world w1 while it is changed. -/
def St2 (w1 : World) (lab : Nat → Nat) (M : TM) (w : World) (T : TS) : Prop := ∃ (lab' : Nat → Nat) (M' : TM), TAt w lab' M' T ∧ M'.t = M.t ∧ M'.m = M.m ∧ (∀ k, k < w1.heap.size → lab' k = lab k) ∧ KeptL lab tabL w1 w
section
variable {w1 w w' : World} {lab : Nat → Nat} {M : TM} {T T' : TS}
theorem St2.below (h : St2 w1 lab M w T) (hb : Below w.heap.size w w') : St2 w1 lab M w' T := by
  obtain ⟨lab', M', h1, h2, h3, h4, h5⟩ := h
  exact ⟨lab', M', h1.below hb, h2, h3, h4, h5.trans (KeptL.of_below hb)⟩
theorem St2.k (h : St2 w1 lab M w T) : KeptL lab tabL w1 w := by
  obtain ⟨lab', M', h1, h2, h3, h4, h5⟩ := h
  exact h5
theorem St2.cut (h : St2 w1 lab M w T) (r t : Int) (hr : T.rOk r = true) (ht : I64 t) : Calls Try.prog 52 #[.pointer (some ⟨M.t, 0, none⟩), .int .i64 (r), .int .i64 (t)] w fun e w' => (∃ a b, e = .returned (.tuple #[.int .i64 (a), .int .i64 (b)])) ∧ St2 w1 lab M w' (T.trunc r t) := by
  obtain ⟨lab', M', h1, h2, h3, h4, h5⟩ := h
  rw [← h2]
  have e1 : (T.cutC r t).2.2 = T.trunc r t := by unfold TS.cutC; rw [if_pos hr]
  refine (cutC_any M' T lab' r t w h1 ht).mono ?_
  rintro e w' ⟨lab2, M2, rfl, g1, g2, g3, g4, g5⟩
  rw [e1] at g1
  exact ⟨⟨_, _, rfl⟩, lab2, M2, g1, g2.trans h2, g3.trans h3, fun k hk => (g4 k (Nat.lt_of_lt_of_le hk h5.size)).trans (h4 k hk), h5.trans' g5 h4⟩
theorem St2.path (h : St2 w1 lab M w T) (r s : Int) (hh : T.held ≤ T.cap) (hr : I64 r) (hs : I64 s) (v : Value) (l : List Int) (hl : Ints w1 lab v l) (n : Nat) (hc : (T.path r s l).1 = 0) : Calls Try.prog 51 #[.pointer (some ⟨M.t, 0, none⟩), .int .i64 (r), .int .i64 (s), v] w fun e w' => (∃ a, e = .returned (.tuple #[.int .i64 (0), .int .i64 (a)])) ∧ St2 w1 lab M w' (T.path r s l).2.2 := by
  obtain ⟨lab', M', h1, h2, h3, h4, h5⟩ := h
  rw [← h2]
  have hl2 : Ints w lab' v l := by
    have hx := hl.keptL h5 (fun x hx => by unfold tabL at hx; omega)
    refine ⟨hx.ex, hx.len, hx.i64, fun j c hj => ?_⟩
    obtain ⟨b, a, n, cap, q1, q2, q3, q4⟩ := hl.row j c hj
    obtain ⟨b', a', n', cap', p1, p2, p3, p4⟩ := hx.row j c hj
    rw [q1] at p1
    simp only [Value.slice.injEq, Option.some.injEq, Addr.mk.injEq, and_true] at p1
    obtain ⟨⟨rfl, rfl⟩, rfl, rfl⟩ := p1
    exact ⟨b, a, n, cap, q1, p2, by rw [h4 b q2]; exact q3, p4⟩
  refine (path_any M' T lab' r s v l w h1 hh hr hs hl2).mono ?_
  rintro e w' ⟨rfl, g1, g2⟩
  rw [hc]
  exact ⟨⟨_, rfl⟩, lab', M', g1, h2, h3, h4, h5.trans' (g2.mono (fun x hx => by unfold tabL; omega)) h4⟩
theorem St2.stand (h : St2 w1 lab M w T) (r c t : Int) (hh : T.held ≤ T.cap) (hc : (T.stand r c t).1 = 0) : Calls Try.prog 48 #[.pointer (some ⟨M.t, 0, none⟩), .int .i64 (r), .int .i64 (c), .int .i64 (t)] w fun e w' => e = .returned (.int .i64 (0)) ∧ St2 w1 lab M w' (T.stand r c t).2 := by
  obtain ⟨lab', M', h1, h2, h3, h4, h5⟩ := h
  rw [← h2]
  refine (stand_any M' T lab' r c t w h1 hh).mono ?_
  rintro e w' ⟨lab2, M2, rfl, g1, g2, g3, g4, g5⟩
  rw [hc]
  exact ⟨rfl, lab2, M2, g1, g2.trans h2, g3.trans h3, fun k hk => (g4 k (Nat.lt_of_lt_of_le hk h5.size)).trans (h4 k hk), h5.trans' g5 h4⟩
end
set_option maxHeartbeats 8000000 in
theorem adopt_any (mb fb : Nat) (M : TM) (T : TS) (lab : Nat → Nat) (q : Rq) (gv dv : Value) (c t x : Int) (pv : Value) (path : List Int) (w : World) (hT : TAt w lab M T) (hm : MoAt w mb fb M.t) (hlm : ¬ tabL (lab mb)) (hh : T.held ≤ T.cap) (hr : T.rOk q.r = true) (ht : (T.base : Int) ≤ q.t ∧ q.t < (T.base : Int) + 256) (hp : Ints w lab pv path) (hpl : 1 ≤ path.length ∧ path.length ≤ 300) (hgv : ∃ a n c, gv = .slice a n c) (hdv : ∃ a n c, dv = .slice a n c) (he : (T.enter q.r q.t path).1 = 0) :
    Calls Try.prog 17 #[.pointer (some ⟨mb, 0, none⟩), .agg #[.int .i64 ((q).r), .int .i64 ((q).s), .int .i64 ((q).t), gv, .int .i64 ((q).h), .int .i64 ((q).m)], .agg #[.int .u8 (c), .int .i64 (t), pv, dv, .int .i64 (x)]] w fun e w' => e = .returned (.bool true) ∧ St2 w lab M w' (T.enter q.r q.t path).2 := by
  obtain ⟨go, gn, gc, hgv⟩ := hgv
  obtain ⟨dq, dn, dc, hdv⟩ := hdv
  subst hgv hdv
  obtain ⟨po, pc, hpv, hpcc⟩ := hp.ex
  obtain ⟨bk, ba, hpo, hbk, hb0⟩ := ints_at (po := po) (pn := path.length) (pc := pc) (by rw [← hpv]; exact hp) (Below.rf _) (i := 0) (by omega)
  subst hpo
  obtain ⟨T1, hT1⟩ : ∃ y, T.trunc q.r q.t = y := ⟨_, rfl⟩
  obtain ⟨T2, hT2⟩ : ∃ y, (T1.path q.r q.t (path.take (path.length - 1))) = y := ⟨_, rfl⟩
  have hroom : ¬ ((T.cap : Int) - (T.held : Int) + T.remov q.r q.t < (path.length : Int)) := fun h => by
    unfold TS.enter at he
    rw [if_pos h] at he
    cases he
  have hc1 : T2.1 = 0 := by
    unfold TS.enter at he
    rw [if_neg hroom, hT1, hT2] at he
    by_cases h : T2.1 ≠ 0
    · rw [if_pos h] at he
      cases he
    · omega
  have hc2 : (T2.2.2.stand q.r (path.getD (path.length - 1) 0) (q.t + path.length - 1)).1 = 0 := by
    unfold TS.enter at he
    rw [if_neg hroom, hT1, hT2, if_neg (by rw [hc1]; simp)] at he
    by_cases h : (T2.2.2.stand q.r (path.getD (path.length - 1) 0) (q.t + path.length - 1)).1 ≠ 0
    · rw [if_pos h] at he
      cases he
    · omega
  have hen : (T.enter q.r q.t path).2 = (T2.2.2.stand q.r (path.getD (path.length - 1) 0) (q.t + path.length - 1)).2 := by
    unfold TS.enter
    rw [if_neg hroom, hT1, hT2, if_neg (by rw [hc1]; simp), if_neg (by rw [hc2]; simp)]
  have hh1 : T1.held ≤ T1.cap := by rw [← hT1]; exact (trunc_fx T q.r q.t).held hh
  have hh2 : T2.2.2.held ≤ T2.2.2.cap := by rw [← hT2]; exact (path_fx T1 q.r q.t _).held hh1
  rw [hen]
  have hbd := hT.bd.base
  have hir : I64 q.r := by
    have := hT.bd.nr
    unfold TS.rOk at hr
    simp at hr
    unfold I64
    omega
  have hly := hp.i64
  have hcell : w.cell? ⟨bk, ba + (path.length - 1), none⟩ = some (.int .i64 (path.getD (path.length - 1) 0)) := by
    obtain ⟨b', a', e1, -, e2⟩ := ints_at (po := some ⟨bk, ba, none⟩) (pn := path.length) (pc := pc) (by rw [← hpv]; exact hp) (Below.rf _) (i := path.length - 1) (by omega)
    simp only [Option.some.injEq, Addr.mk.injEq, and_true] at e1
    rw [e1.1, e1.2]
    exact e2
  obtain ⟨ly, hly2⟩ : ∃ y, path.getD (path.length - 1) 0 = y := ⟨_, rfl⟩
  rw [hly2] at hc2 hcell ⊢
  obtain ⟨pn, hpn⟩ : ∃ y, path.length = y := ⟨_, rfl⟩
  obtain ⟨pm, hpm⟩ : ∃ y, pn - 1 = y := ⟨_, rfl⟩
  rw [hpn] at hpv hpl hpcc hcell hc2 hT2 ⊢
  rw [hpm] at hcell hT2
  subst hpv
  have hlb : lab bk = 0 ∨ 10 ≤ lab bk := by
    have h0 : path[0]? = some path[0] := List.getElem?_eq_getElem (by omega)
    obtain ⟨b', a', n', cap', e1, -, e2, -⟩ := hp.row 0 _ h0
    simp only [Value.slice.injEq, Option.some.injEq, Addr.mk.injEq, and_true] at e1
    rw [e1.1.1]
    exact e2
  have HTK : Hid (Ints w lab (.slice (some ⟨bk, ba, none⟩) pm pc) (path.take pm)) := hp.take pm (by omega)
  have m1 := hm.c1
  have hml := hm.lt
  have hsl := fun w => slice_h1 bk ba pm pn pc (by omega) (by omega) w
  have fw2 : (pn : Int) - 1 = (pm : Int) := by omega
  have fw3 : IntKind.i64.wrap ((pn : Int) - 1) = (pm : Int) := by simp [IntKind.wrap, IntKind.bits, IntKind.signed]; omega
  have fw4 : (0 : Int) ≤ (pm : Int) := by omega
  have fw5 : (pm : Int) < (pn : Int) := by omega
  have fw6 : IntKind.i64.wrap (pm : Int) = (pm : Int) := by simp [IntKind.wrap, IntKind.bits, IntKind.signed]; omega
  have fw7 : IntKind.i64.wrap (q.t + (pm : Int)) = q.t + (pm : Int) := by simp [IntKind.wrap, IntKind.bits, IntKind.signed]; omega
  have dpm : decide (pm < pn) = true := by simp; omega
  have hta : q.t + (pn : Int) - 1 = q.t + (pm : Int) := by omega
  rw [hta] at hc2 ⊢
  have HC2 := hid hc2
  have HC1 := hid hc1
  have HHH := hid hh
  have HH1 := hid hh1
  have HH2 := hid hh2
  have HT := hid hT
  have HT1 := hid hT1
  have HT2 := hid hT2
  have HR := hid hr
  clear hc2 hc1 hh hh1 hh2 hT hT1 hT2 hp hm hroom hen he hly hly2 hpn hpm hb0 hr hta
  go_enter Try.func17, Try.ntmps17
  go_wp2
  refine wp_nm fun w1 hw1 => ?_
  have b1 : Below w.heap.size w w1 := by rw [hw1]; (repeat (first | with_reducible exact Below.rf _ | with_reducible exact World.below_ext _ _ | with_reducible refine Below.ex ?_ _ | with_reducible refine Below.al ?_ _ | with_reducible refine Below.setCell ?_ (by simp) _ | with_reducible refine Below.drew ?_))
  have r0 : w1.cell? ⟨w.heap.size, 0, none⟩ = some (.int .i64 (q.r)) := by rw [hw1]; simp [go_sem, ↓IntWalk.iteOmega]
  have r2 : w1.cell? ⟨w.heap.size, 2, none⟩ = some (.int .i64 (q.t)) := by rw [hw1]; simp [go_sem, ↓IntWalk.iteOmega]
  have p2 : w1.cell? ⟨w.heap.size + 1, 2, none⟩ = some (.slice (some ⟨bk, ba, none⟩) pn pc) := by rw [hw1]; simp [go_sem, ↓IntWalk.iteOmega]
  have hs1 : w1.heap.size = w.heap.size + 2 := by rw [hw1]; simp
  clear hw1
  obtain ⟨lab1, hl1, hl2⟩ : ∃ y : Nat → Nat, (∀ k, k < w.heap.size → y k = lab k) ∧ ∀ k, w.heap.size ≤ k → y k = 0 := ⟨fun b => if b < w.heap.size then lab b else 0, fun k hk => if_pos hk, fun k hk => if_neg (by omega)⟩
  have S1 : Hid (St2 w1 lab1 M w1 T) := ⟨lab1, M, (HT.out.relab hl1).below b1, rfl, rfl, fun _ _ => rfl, KeptL.refl _ _ _⟩
  have HTK1 : Hid (Ints w1 lab1 (.slice (some ⟨bk, ba, none⟩) pm pc) (path.take pm)) := (HTK.out.relab (fun b hb h => by rw [hl1 b hb]; exact h)).keptL (A := fun _ => False) (KeptL.of_below b1) (fun _ h => h.elim)
  obtain ⟨rb, hrb⟩ : ∃ y, w.heap.size = y := ⟨_, rfl⟩
  obtain ⟨pb, hpb⟩ : ∃ y, w.heap.size + 1 = y := ⟨_, rfl⟩
  have m1' := (World.cell?_of_block (b1.block mb hml)).trans m1
  have bk' := (World.cell?_of_block (b1.block bk hbk)).trans hcell
  have SX : Hid (∀ w', KeptL lab1 tabL w1 w' → (w').cell? ⟨mb, 1, none⟩ = some (.pointer (some ⟨M.t, 0, none⟩)) ∧ (w').cell? ⟨rb, 0, none⟩ = some (.int .i64 (q.r)) ∧ (w').cell? ⟨rb, 2, none⟩ = some (.int .i64 (q.t)) ∧ (w').cell? ⟨pb, 2, none⟩ = some (.slice (some ⟨bk, ba, none⟩) pn pc) ∧ (w').cell? ⟨bk, ba + pm, none⟩ = some (.int .i64 (ly))) := fun w' h => by
    have q0 : ∀ b, b < w1.heap.size → ¬ tabL (lab1 b) → w'.heap[b]? = w1.heap[b]? := fun b hb hn => h.block b hb hn
    have z0 : ¬ tabL 0 := by unfold tabL; omega
    refine ⟨(World.cell?_of_block (q0 mb (by omega) (by rw [hl1 mb hml]; exact hlm))).trans m1', (World.cell?_of_block (q0 rb (by omega) (by rw [hl2 rb (by omega)]; exact z0))).trans (hrb ▸ r0), (World.cell?_of_block (q0 rb (by omega) (by rw [hl2 rb (by omega)]; exact z0))).trans (hrb ▸ r2), (World.cell?_of_block (q0 pb (by omega) (by rw [hl2 pb (by omega)]; exact z0))).trans (hpb ▸ p2), (World.cell?_of_block (q0 bk (by omega) (by rw [hl1 bk hbk]; unfold tabL; omega))).trans bk'⟩
  have HEND : Hid (∀ w' T', St2 w1 lab1 M w' T' → St2 w lab M w' T') := fun w' T' h => by
    obtain ⟨lab', M', g1, g2, g3, g4, g5⟩ := h
    refine ⟨lab', M', g1, g2, g3, fun k hk => (g4 k (by omega)).trans (hl1 k hk), ?_⟩
    exact (KeptL.of_below b1).trans' g5 hl1
  have hmb1 : mb < w1.heap.size := by omega
  have hbk1 : bk < w1.heap.size := by omega
  have hrb1 : rb < w1.heap.size := by omega
  have hpb1 : pb < w1.heap.size := by omega
  rw [hpb, hrb]
  obtain ⟨s1, s2, s3, s4, s5⟩ := SX.out w1 (KeptL.refl _ _ _)
  clear r0 r2 p2 m1' bk' m1 hcell HT HTK b1 hrb hpb hs1
  go_region_held3 (fun w' => (w').cell? ⟨mb, 1, none⟩ = some (.pointer (some ⟨M.t, 0, none⟩)) ∧ (w').cell? ⟨rb, 0, none⟩ = some (.int .i64 (q.r)) ∧ (w').cell? ⟨rb, 2, none⟩ = some (.int .i64 (q.t)) ∧ (w').cell? ⟨pb, 2, none⟩ = some (.slice (some ⟨bk, ba, none⟩) pn pc) ∧ (w').cell? ⟨bk, ba + pm, none⟩ = some (.int .i64 (ly))) (first | with_reducible assumption | simp [go_sem, ↓IntWalk.iteOmega, *]) ((go_at_call 52; refine ((S1.out.below (by (repeat (first | with_reducible exact Below.rf _ | with_reducible exact World.below_ext _ _ | with_reducible refine Below.ex ?_ _ | with_reducible refine Below.al ?_ _ | with_reducible refine Below.setCell ?_ (by simp) _ | with_reducible refine Below.drew ?_)))).cut q.r q.t HR.out (by unfold I64; omega)).mono ?_; rintro e w2 ⟨⟨c1, c2, rfl⟩, hS2⟩; have k2 := SX.out w2 hS2.k))
  have HS2 : Hid (St2 w1 lab1 M w2 T1) := by
    rw [HT1.out] at hS2
    exact hS2
  have hz2 := HS2.out.k.size
  have hmb2 := Nat.lt_of_lt_of_le hmb1 hz2
  have hbk2 := Nat.lt_of_lt_of_le hbk1 hz2
  have hrb2 := Nat.lt_of_lt_of_le hrb1 hz2
  have hpb2 := Nat.lt_of_lt_of_le hpb1 hz2
  clear s1 s2 s3 s4 s5 hS2
  obtain ⟨s1, s2, s3, s4, s5⟩ := k2
  have HP51 : Hid (∀ w', Below w2.heap.size w2 w' → Calls Try.prog 51 #[.pointer (some ⟨M.t, 0, none⟩), .int .i64 (q.r), .int .i64 (q.t), .slice (some ⟨bk, ba, none⟩) pm pc] w' fun e w'' => (∃ a, e = .returned (.tuple #[.int .i64 (0), .int .i64 (a)])) ∧ St2 w1 lab1 M w'' T2.2.2) := fun w' h => by
    have := (HS2.out.below h).path q.r q.t HH1.out hir (by unfold I64; omega) (.slice (some ⟨bk, ba, none⟩) pm pc) (path.take pm) HTK1.out 0 (by rw [HT2.out]; exact HC1.out)
    rw [HT2.out] at this
    exact this
  go_wp2
  go_region_held3 (fun w' => (w').cell? ⟨mb, 1, none⟩ = some (.pointer (some ⟨M.t, 0, none⟩)) ∧ (w').cell? ⟨rb, 0, none⟩ = some (.int .i64 (q.r)) ∧ (w').cell? ⟨rb, 2, none⟩ = some (.int .i64 (q.t)) ∧ (w').cell? ⟨pb, 2, none⟩ = some (.slice (some ⟨bk, ba, none⟩) pn pc) ∧ (w').cell? ⟨bk, ba + pm, none⟩ = some (.int .i64 (ly))) (first | with_reducible assumption | simp [go_sem, ↓IntWalk.iteOmega, *]) ((go_at_call 51; refine (HP51.out _ (by (repeat (first | with_reducible exact Below.rf _ | with_reducible exact World.below_ext _ _ | with_reducible refine Below.ex ?_ _ | with_reducible refine Below.al ?_ _ | with_reducible refine Below.setCell ?_ (by simp) _ | with_reducible refine Below.drew ?_)))).mono ?_; rintro e w3 ⟨⟨c3, rfl⟩, hS3⟩; have k3 := SX.out w3 hS3.k))
  have HS3 := hid hS3
  have hz3 := HS3.out.k.size
  clear s1 s2 s3 s4 s5 hS3 HP51 hmb2 hbk2 hrb2 hpb2 hz2
  have hmb2 := Nat.lt_of_lt_of_le hmb1 hz3
  have hbk2 := Nat.lt_of_lt_of_le hbk1 hz3
  have hrb2 := Nat.lt_of_lt_of_le hrb1 hz3
  have hpb2 := Nat.lt_of_lt_of_le hpb1 hz3
  obtain ⟨s1, s2, s3, s4, s5⟩ := k3
  have HP48 : Hid (∀ w', Below w3.heap.size w3 w' → Calls Try.prog 48 #[.pointer (some ⟨M.t, 0, none⟩), .int .i64 (q.r), .int .i64 (ly), .int .i64 (q.t + (pm : Int))] w' fun e w'' => e = .returned (.int .i64 (0)) ∧ St2 w1 lab1 M w'' (T2.2.2.stand q.r ly (q.t + (pm : Int))).2) := fun w' h => (HS3.out.below h).stand q.r ly (q.t + (pm : Int)) HH2.out HC2.out
  go_wp2
  go_region_held3 (fun w' => (w').cell? ⟨mb, 1, none⟩ = some (.pointer (some ⟨M.t, 0, none⟩)) ∧ (w').cell? ⟨rb, 0, none⟩ = some (.int .i64 (q.r)) ∧ (w').cell? ⟨rb, 2, none⟩ = some (.int .i64 (q.t)) ∧ (w').cell? ⟨pb, 2, none⟩ = some (.slice (some ⟨bk, ba, none⟩) pn pc) ∧ (w').cell? ⟨bk, ba + pm, none⟩ = some (.int .i64 (ly))) (first | with_reducible assumption | simp [go_sem, ↓IntWalk.iteOmega, *]) ((go_at_call 48; refine (HP48.out _ (by (repeat (first | with_reducible exact Below.rf _ | with_reducible exact World.below_ext _ _ | with_reducible refine Below.ex ?_ _ | with_reducible refine Below.al ?_ _ | with_reducible refine Below.setCell ?_ (by simp) _ | with_reducible refine Below.drew ?_)))).mono ?_; rintro e w4 ⟨rfl, hS4⟩; have k4 := SX.out w4 hS4.k))
  have HS4 := hid hS4
  clear s1 s2 s3 s4 s5 k4 hS4 HP48
  go_wp2
  go_ret
  exact ⟨rfl, HEND.out _ _ HS4.out⟩
end Go.Proofs.Qxb6500716a
