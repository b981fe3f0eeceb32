/-
  FailureIsExplicitAndHarmless: the loop over the two tries, cut out.
-/
import Derived.Test.Qxb6500716aLo
import Derived.Test.Qxb6500716aBt
import Derived.WalkSpells
namespace Go.Proofs.Qxb6500716a
open Go.RowKit Go.Maps
set_option linter.unusedSimpArgs false
set_option linter.unusedVariables false
set_option maxRecDepth 20000
set_option maxHeartbeats 4000000
def tryc (L H : Nat → Int) (W : Nat → Nat) : Nat → Value
  | 0 => .int .i64 (L 0)
  | 1 => .int .i64 (H 0)
  | 2 => .int .u8 (W 0)
  | 3 => .int .i64 (L 1)
  | 4 => .int .i64 (H 1)
  | _ => .int .u8 (W 1)
/-- All that a try reads. -/
structure E7 (w : World) (lab labc : Nat → Nat) (d fb ab : Nat) (Mc : TM) (F : FS) (T : TS) (q : Rq) (gv : Value) (L H : Nat → Int) (W : Nat → Nat) : Prop where
  f : FAt w lab fb F
  c : TAt w labc Mc T
  g : GAt w lab gv q.gl
  d0 : w.cell? ⟨d, 0, none⟩ = some (.pointer (some ⟨fb, 0, none⟩))
  d4 : w.cell? ⟨d, 4, none⟩ = some (.int .i64 (q.r))
  d5 : w.cell? ⟨d, 5, none⟩ = some (.int .i64 (q.s))
  d6 : w.cell? ⟨d, 6, none⟩ = some (.int .i64 (q.t))
  d7 : w.cell? ⟨d, 7, none⟩ = some gv
  d8 : w.cell? ⟨d, 8, none⟩ = some (.int .i64 (q.h))
  d9 : w.cell? ⟨d, 9, none⟩ = some (.int .i64 (q.m))
  dl : d < w.heap.size
  a : Blk w ab 6 (tryc L H W)
theorem E7.below {w w' : World} {lab labc : Nat → Nat} {d fb ab : Nat} {Mc : TM} {F : FS} {T : TS} {q : Rq} {gv : Value} {L H : Nat → Int} {W : Nat → Nat} (h : E7 w lab labc d fb ab Mc F T q gv L H W) (hb : Below w.heap.size w w') : E7 w' lab labc d fb ab Mc F T q gv L H W :=
  ⟨h.f.below hb, h.c.below hb, h.g.below hb, (World.cell?_of_block (hb.block d h.dl)).trans h.d0, (World.cell?_of_block (hb.block d h.dl)).trans h.d4, (World.cell?_of_block (hb.block d h.dl)).trans h.d5, (World.cell?_of_block (hb.block d h.dl)).trans h.d6, (World.cell?_of_block (hb.block d h.dl)).trans h.d7, (World.cell?_of_block (hb.block d h.dl)).trans h.d8, (World.cell?_of_block (hb.block d h.dl)).trans h.d9, Nat.lt_of_lt_of_le h.dl hb.size, h.a.below hb⟩
theorem try_at {w : World} {ab : Nat} {L H : Nat → Int} {W : Nat → Nat} (h : Blk w ab 6 (tryc L H W)) (k : Nat) (hk : k < 2) : w.cell? ⟨ab, k * 3, none⟩ = some (.int .i64 (L k)) ∧ w.cell? ⟨ab, k * 3 + 1, none⟩ = some (.int .i64 (H k)) ∧ w.cell? ⟨ab, k * 3 + 2, none⟩ = some (.int .u8 (W k)) := by
  rcases (by omega : k = 0 ∨ k = 1) with rfl | rfl
  · exact ⟨h.is 0 (by omega), h.is 1 (by omega), h.is 2 (by omega)⟩
  · exact ⟨h.is 3 (by omega), h.is 4 (by omega), h.is 5 (by omega)⟩
def e25R (w4 : World) (d fb mt : Nat) (T : TS) (q : Rq) (gv : Value) (c : Nat) (a a' : Act) (w' : World) : Prop :=
  ∃ (pb np : Nat) (tv xv v : Value) (lab : Nat → Nat) (M : TM), M.t = mt ∧ TAt w' lab M T ∧ Below w4.heap.size w4 w' ∧ Blk w' pb 5 (plz (.int .u8 c) tv xv (.slice none 0 0) (.slice none 0 0)) ∧
    a' = ((((((((a.put (some 123) (.pointer (some ⟨d, 0, none⟩))).put (some 124) (.pointer (some ⟨d, 0, none⟩))).put (some 125) (.pointer (some ⟨d, 0, none⟩))).put (some 126) (.pointer (some ⟨fb, 0, none⟩))).put (some 127) (.pointer (some ⟨mt, 0, none⟩))).put (some 128) (.pointer (some ⟨np, 0, none⟩))).put (some 129) (.agg #[.int .i64 ((q).r), .int .i64 ((q).s), .int .i64 ((q).t), gv, .int .i64 ((q).h), .int .i64 ((q).m)])).put (some 130) v).put (some 12) (.pointer (some ⟨pb, 0, none⟩))
set_option maxRecDepth 1000000 in
set_option maxHeartbeats 400000000 in
theorem ty_loop (w7 : World) (lab labc : Nat → Nat) (d fb ab : Nat) (Mc : TM) (F : FS) (T : TS) (q : Rq) (go : Option Addr) (gn gc : Nat) (L H : Nat → Int) (W : Nat → Nat)
    (HE7 : E7 w7 lab labc d fb ab Mc F T q (.slice go gn gc) L H W) (hgood : ∀ k, k < 2 → 1 ≤ L k → 0 ≤ H k → (PS.search F T { q with h := H k, m := L k } PS.new).2.c = W k) (hW : ∀ k, k < 2 → W k ≠ 0 ∧ W k < 8) (hL : ∀ k, k < 2 → (-1000000000 ≤ L k ∧ L k ≤ 1000000000) ∧ -1000000000 ≤ H k ∧ H k ≤ 1000000000) (hq : RqI q) (hnr : T.nr = F.bays.length) (hh : T.held ≤ T.cap)
    (Q0 : Exit → Act → World → Prop) (x0 x1 x2 x4 x5 x7 x8 x9 x10 x11 x12 x13 x14 x15 x16 x17 x18 x19 x20 x21 x22 x23 x24 x25 x26 x27 x28 x29 x30 x31 x32 x33 x34 x35 x36 x37 x38 x39 x40 x41 x42 x43 x44 x45 x46 x47 x48 x49 x50 x51 x52 x53 x54 x55 x56 x57 x58 x59 x60 x61 x62 x63 x64 x65 x66 x67 x68 x69 x70 x71 x72 x73 x74 x75 x76 x77 x78 x79 x80 x81 x82 x83 x84 x85 x86 x87 x88 x89 x90 x91 x92 x93 x94 x95 x96 x100 x101 x102 x103 x104 x105 x106 x107 x108 x109 x110 x111 x112 x113 x114 x115 x116 x117 x118 x119 x120 x121 x122 x123 x124 x125 x126 x127 x128 x129 x130 x131 x132 x133 x134 x135 x136 x137 x138 x139 x140 x141 x142 x143 x144 x145 x146 x147 x148 : Value)
    (hexit : ∀ (a' : Act) (w'' : World), (Below w7.heap.size w7 w'' ∧ ∃ UTY : Nat → Value, a' = ⟨List.toArray (x0 :: x1 :: UTY 2 :: .pointer (some ⟨d, 0, none⟩) :: x4 :: x5 :: .pointer (some ⟨Mc.t, 0, none⟩) :: x7 :: x8 :: UTY 9 :: UTY 10 :: UTY 11 :: UTY 12 :: x13 :: x14 :: x15 :: x16 :: x17 :: x18 :: x19 :: x20 :: x21 :: x22 :: x23 :: x24 :: x25 :: x26 :: x27 :: x28 :: x29 :: x30 :: x31 :: x32 :: x33 :: x34 :: x35 :: x36 :: x37 :: x38 :: x39 :: x40 :: x41 :: x42 :: x43 :: x44 :: x45 :: x46 :: x47 :: x48 :: x49 :: x50 :: x51 :: x52 :: x53 :: x54 :: x55 :: x56 :: x57 :: x58 :: x59 :: x60 :: x61 :: x62 :: x63 :: x64 :: x65 :: x66 :: x67 :: x68 :: x69 :: x70 :: x71 :: x72 :: x73 :: x74 :: x75 :: x76 :: x77 :: x78 :: x79 :: x80 :: x81 :: x82 :: x83 :: x84 :: x85 :: x86 :: x87 :: x88 :: x89 :: x90 :: x91 :: x92 :: x93 :: x94 :: x95 :: x96 :: (.slice (some ⟨ab, 0, none⟩) 2 2) :: .int .i64 (2) :: UTY 99 :: UTY 100 :: UTY 101 :: UTY 102 :: UTY 103 :: UTY 104 :: UTY 105 :: UTY 106 :: UTY 107 :: UTY 108 :: UTY 109 :: UTY 110 :: UTY 111 :: UTY 112 :: UTY 113 :: UTY 114 :: UTY 115 :: UTY 116 :: UTY 117 :: UTY 118 :: UTY 119 :: UTY 120 :: UTY 121 :: UTY 122 :: UTY 123 :: UTY 124 :: UTY 125 :: UTY 126 :: UTY 127 :: UTY 128 :: UTY 129 :: UTY 130 :: UTY 131 :: UTY 132 :: UTY 133 :: UTY 134 :: UTY 135 :: UTY 136 :: UTY 137 :: UTY 138 :: UTY 139 :: UTY 140 :: UTY 141 :: UTY 142 :: UTY 143 :: UTY 144 :: UTY 145 :: UTY 146 :: UTY 147 :: x148 :: []), []⟩) → Q0 (.exit 2) a' w'') :
    Code.wp Try.prog ((Try.f7.body.bind (findBlock 2)).getD .skip) Q0 ⟨List.toArray (x0 :: x1 :: x2 :: .pointer (some ⟨d, 0, none⟩) :: x4 :: x5 :: .pointer (some ⟨Mc.t, 0, none⟩) :: x7 :: x8 :: x9 :: x10 :: x11 :: x12 :: x13 :: x14 :: x15 :: x16 :: x17 :: x18 :: x19 :: x20 :: x21 :: x22 :: x23 :: x24 :: x25 :: x26 :: x27 :: x28 :: x29 :: x30 :: x31 :: x32 :: x33 :: x34 :: x35 :: x36 :: x37 :: x38 :: x39 :: x40 :: x41 :: x42 :: x43 :: x44 :: x45 :: x46 :: x47 :: x48 :: x49 :: x50 :: x51 :: x52 :: x53 :: x54 :: x55 :: x56 :: x57 :: x58 :: x59 :: x60 :: x61 :: x62 :: x63 :: x64 :: x65 :: x66 :: x67 :: x68 :: x69 :: x70 :: x71 :: x72 :: x73 :: x74 :: x75 :: x76 :: x77 :: x78 :: x79 :: x80 :: x81 :: x82 :: x83 :: x84 :: x85 :: x86 :: x87 :: x88 :: x89 :: x90 :: x91 :: x92 :: x93 :: x94 :: x95 :: x96 :: (.slice (some ⟨ab, 0, none⟩) 2 2) :: .int .i64 (2) :: .int .i64 (0) :: x100 :: x101 :: x102 :: x103 :: x104 :: x105 :: x106 :: x107 :: x108 :: x109 :: x110 :: x111 :: x112 :: x113 :: x114 :: x115 :: x116 :: x117 :: x118 :: x119 :: x120 :: x121 :: x122 :: x123 :: x124 :: x125 :: x126 :: x127 :: x128 :: x129 :: x130 :: x131 :: x132 :: x133 :: x134 :: x135 :: x136 :: x137 :: x138 :: x139 :: x140 :: x141 :: x142 :: x143 :: x144 :: x145 :: x146 :: x147 :: x148 :: []), []⟩ w7 := by
  conv => arg 2; whnf
  have HE7 := hid HE7
  have HGD := hid hgood
  have HW := hid hW
  have HL := hid hL
  have HQ := hid hq
  have HNR := hid hnr
  have HHC := hid hh
  clear hgood hW hL hq hnr hh
  go_loopw [99] (fun v wr => ∃ k : Nat, v = .int .i64 (k) ∧ k ≤ 2 ∧ Below w7.heap.size w7 wr) (fun v _ => 2 - (intOf v).toNat)
  case atStart => exact ⟨0, rfl, Nat.zero_le _, Below.rf _⟩
  case round =>
    obtain ⟨k, rfl, hk, hB⟩ := hrel
    have HB := hid hB
    have HE := hid (HE7.out.below hB)
    clear hB
    by_cases hkn : k < 2
    · have dk : decide ((k : Int) < 2) = true := by simp; omega
      have dkn : decide (k < 2) = true := by simp; omega
      obtain ⟨y0, y1, y2⟩ := try_at HE.out.a k hkn
      have hal := HE.out.a.lt
      have e4 := HE.out.d4
      have e5 := HE.out.d5
      have e6 := HE.out.d6
      have e7 := HE.out.d7
      have e8 := HE.out.d8
      have e9 := HE.out.d9
      have hdl := HE.out.dl
      have hgd := HGD.out k hkn
      obtain ⟨hw1, hw2⟩ := HW.out k hkn
      obtain ⟨hl1, hl2⟩ := HL.out k hkn
      generalize L k = lim at *
      generalize H k = hor at *
      generalize W k = wn at *
      have HGK := hid hgd
      clear hgd
      go_wp2
      refine wp_nm fun w3 hw3 => ?_
      have hb3 : Below wr.heap.size wr w3 := by rw [hw3]; (repeat (first | with_reducible exact Below.rf _ | with_reducible exact World.below_ext _ _ | with_reducible refine Below.ex ?_ _ | with_reducible refine Below.al ?_ _ | with_reducible refine Below.setCell ?_ (by simp) _ | with_reducible refine Below.drew ?_))
      obtain ⟨tb, htb⟩ : ∃ y, wr.heap.size = y := ⟨_, rfl⟩
      have t0 : w3.cell? ⟨wr.heap.size, 0, none⟩ = some (.int .i64 (lim)) := by rw [hw3]; simp [go_sem, ↓IntWalk.iteOmega]
      have t1 : w3.cell? ⟨wr.heap.size, 1, none⟩ = some (.int .i64 (hor)) := by rw [hw3]; simp [go_sem, ↓IntWalk.iteOmega]
      have t2 : w3.cell? ⟨wr.heap.size, 2, none⟩ = some (.int .u8 wn) := by rw [hw3]; simp [go_sem, ↓IntWalk.iteOmega]
      have R3 : Blk w3 (wr.heap.size + 1) 6 (rq4 q (.slice go gn gc)) := by
        rw [hw3]
        refine ⟨by (simp <;> omega), fun i hi => ?_, fun i hi => by simp [go_sem, ↓IntWalk.iteOmega]⟩
        rcases (by omega : i = 0 ∨ i = 1 ∨ i = 2 ∨ i = 3 ∨ i = 4 ∨ i = 5) with rfl | rfl | rfl | rfl | rfl | rfl <;> simp [go_sem, ↓IntWalk.iteOmega, rq4]
      have hsz3 : w3.heap.size = wr.heap.size + 2 := by rw [hw3]; simp
      rw [htb] at t0 t1 t2 R3 hsz3 ⊢
      have HB3 : Hid (Below w7.heap.size w7 w3) := HB.out.trans (hb3.mono HB.out.size)
      have hr5 : w3.frozen? ⟨tb + 1, 5, none⟩ = false := R3.fz 5 (by omega)
      have hr4 : w3.frozen? ⟨tb + 1, 4, none⟩ = false := R3.fz 4 (by omega)
      have c5 : w3.cell? ⟨tb + 1, 5, none⟩ = some (.int .i64 (q.m)) := R3.is 5 (by omega)
      have c4 : w3.cell? ⟨tb + 1, 4, none⟩ = some (.int .i64 (q.h)) := R3.is 4 (by omega)
      have HR3 := hid R3
      have hbt : w7.heap.size ≤ tb := by rw [← htb]; exact HB.out.size
      obtain ⟨wo, rfl⟩ : ∃ y, y = wr := ⟨_, rfl⟩
      clear hw3 hb3 y0 y1 y2 hal e4 e5 e6 e7 e8 e9 hdl HE HB R3 htb
      --BEGIN 1
      refine region_via (fun a a' w' => (Below w7.heap.size w7 w' ∧ w'.cell? ⟨tb, 0, none⟩ = some (.int .i64 (lim)) ∧ w'.cell? ⟨tb, 2, none⟩ = some (.int .u8 wn) ∧ Blk w' (tb + 1) 6 (rq4 { q with h := hor, m := lim } (.slice go gn gc)) ∧ w'.heap.size = tb + 2) ∧ a' = ((((((a.put (some 107) (.pointer (some ⟨tb, 0, none⟩))).put (some 108) (.int .i64 (lim))).put (some 109) (.pointer (some ⟨tb, 1, none⟩))).put (some 110) (.int .i64 (hor))).put (some 111) (.pointer (some ⟨tb + 1, 5, none⟩))).put (some 112) (.pointer (some ⟨tb + 1, 4, none⟩)))) ?_ ?_
      · --BEGIN 2
        refine wp_region_tree 7 (fun w' => w'.cell? ⟨tb, 0, none⟩ = some (.int .i64 (lim)) ∧ w'.cell? ⟨tb, 1, none⟩ = some (.int .i64 (hor))) (.q 0 false (.q 1 true (.q 2 false (.q 3 true (.q 4 false (.one 5 true (.q 6 false (.one 7 false .nil)))))))) (by kernel_rfl) (by kernel_rfl) (by kernel_rfl) ?_ ?_
        · simp [go_sem, ↓IntWalk.iteOmega, *]
        repeat (first | (refine wpTr_qf (v := ?_) rfl rfl ?_ ?_; rotate_left; focus (intro w; go_simp; (try (with_reducible rfl)); done); try simp only [List.getElem_toArray, List.getElem_cons_zero, List.getElem_cons_succ, Act.put, List.setIfInBounds_toArray, List.set_cons_zero, List.set_cons_succ]) | (refine wpTr_qt (v := ?_) rfl rfl ?_ ?_; rotate_left; focus (intro w hSw; (try dsimp only at hSw); go_simp; (try (with_reducible rfl)); done); try simp only [List.getElem_toArray, List.getElem_cons_zero, List.getElem_cons_succ, Act.put, List.setIfInBounds_toArray, List.set_cons_zero, List.set_cons_succ]))
        refine wpTr_one rfl rfl (fun K hK => ?_)
        go_simp
        refine hK.out _ _ (fun _ => by simp [go_sem, ↓IntWalk.iteOmega, *]) ?_
        clear hK K
        repeat (first | (refine wpTr_qf (v := ?_) rfl rfl ?_ ?_; rotate_left; focus (intro w; go_simp; (try (with_reducible rfl)); done); try simp only [List.getElem_toArray, List.getElem_cons_zero, List.getElem_cons_succ, Act.put, List.setIfInBounds_toArray, List.set_cons_zero, List.set_cons_succ]) | (refine wpTr_qt (v := ?_) rfl rfl ?_ ?_; rotate_left; focus (intro w hSw; (try dsimp only at hSw); go_simp; (try (with_reducible rfl)); done); try simp only [List.getElem_toArray, List.getElem_cons_zero, List.getElem_cons_succ, Act.put, List.setIfInBounds_toArray, List.set_cons_zero, List.set_cons_succ]))
        refine wpTr_one rfl rfl (fun K hK => ?_)
        go_simp
        refine hK.out _ _ (fun h => by cases h) ?_
        clear hK K
        refine wpTr_nil ?_
        refine NoPanic.normal ?_
        refine ⟨rfl, ⟨?_, by simp [go_sem, ↓IntWalk.iteOmega, t0], by simp [go_sem, ↓IntWalk.iteOmega, t2], ?_, by simpa using hsz3⟩, by simp only [Act.put, List.setIfInBounds_toArray, List.set_cons_zero, List.set_cons_succ, List.getElem_toArray, List.getElem_cons_zero, List.getElem_cons_succ]⟩
        · refine Below.drew ?_
          refine Below.setCell ?_ (by simp only; omega) _
          refine Below.setCell ?_ (by simp only; omega) _
          exact HB3.out
        · refine Blk.below (w := (w3.setCell ⟨tb + 1, 5, none⟩ (.int .i64 (lim))).setCell ⟨tb + 1, 4, none⟩ (.int .i64 (hor))) ?_ (Below.drew (Below.rf _))
          refine ((HR3.out.set 5 _ (by omega)).set 4 _ (by omega)).congr (fun i hi => ?_)
          rcases (by omega : i = 0 ∨ i = 1 ∨ i = 2 ∨ i = 3 ∨ i = 4 ∨ i = 5) with rfl | rfl | rfl | rfl | rfl | rfl <;> rfl
        --END 2
      · --BEGIN 3
        rintro a w4 ⟨⟨hb4, t0', t2', R4, hsz4⟩, rfl⟩
        simp only [Act.put, List.setIfInBounds_toArray, List.set_cons_zero, List.set_cons_succ]
        obtain ⟨q2, hq2⟩ : ∃ y : Rq, { q with h := hor, m := lim } = y := ⟨_, rfl⟩
        rw [hq2] at R4
        have hq2h : q2.h = hor := by rw [← hq2]
        have hq2m : q2.m = lim := by rw [← hq2]
        have hgl : q2.gl = q.gl := by rw [← hq2]
        have hqi : RqI q2 := by
          rw [← hq2]
          exact ⟨HQ.out.r, HQ.out.s, HQ.out.t, by unfold I64; simp only; omega, by unfold I64; simp only; omega⟩
        have r0 : w4.cell? ⟨tb + 1, 0, none⟩ = some (.int .i64 (q2.r)) := R4.is 0 (by omega)
        have r1 : w4.cell? ⟨tb + 1, 1, none⟩ = some (.int .i64 (q2.s)) := R4.is 1 (by omega)
        have r2 : w4.cell? ⟨tb + 1, 2, none⟩ = some (.int .i64 (q2.t)) := R4.is 2 (by omega)
        have r3 : w4.cell? ⟨tb + 1, 3, none⟩ = some (.slice go gn gc) := R4.is 3 (by omega)
        have r4 : w4.cell? ⟨tb + 1, 4, none⟩ = some (.int .i64 (q2.h)) := R4.is 4 (by omega)
        have r5 : w4.cell? ⟨tb + 1, 5, none⟩ = some (.int .i64 (q2.m)) := R4.is 5 (by omega)
        rw [← hq2h, ← hq2m] at HGK
        have HGK2 : Hid (1 ≤ q2.m → 0 ≤ q2.h → (PS.search F T q2 PS.new).2.c = wn) := fun a b => by
          have := HGK.out a b
          rw [hq2h, hq2m, hq2] at this
          exact this
        have HQI := hid hqi
        have HGL := hid hgl
        have HE4 := hid (HE7.out.below hb4)
        have HB4 := hid hb4
        clear hb4 R4 HR3 t0 t1 t2 hr5 hr4 c5 c4 HGK hqi hgl hq2 hq2h hq2m hsz3 HB3
        by_cases hm : q2.m < 1
        · have dm : decide (q2.m < 1) = true := by simp [hm]
          go_wp2
          go_roundw
          case rel => exact ⟨k + 1, by go_num, by omega, HB4.out⟩
          case measure => (simp [intOf] <;> omega)
        have dm : decide (q2.m < 1) = false := by simp; omega
        by_cases hhh : q2.h < 0
        · have dh : decide (q2.h < 0) = true := by simp [hhh]
          go_wp2
          go_roundw
          case rel => exact ⟨k + 1, by go_num, by omega, HB4.out⟩
          case measure => (simp [intOf] <;> omega)
        have dh : decide (q2.h < 0) = false := by simp; omega
        have hcc := HGK2.out (by omega) (by omega)
        have hfok := HE4.out.f.ok
        obtain ⟨hpT, hpc, hpp⟩ := plan_bad hfok (Nat.zero_le _) hcc hw1
        have HPT := hid hpT
        have HPC := hid hpc
        clear hpT hpc hpp hcc hfok HGK2 hm hhh
        go_wp2_with (first | (go_at_call 19; refine hold ?_))
        unfold Hid
        refine (clone_any Mc T labc w4 HE4.out.c).mono ?_
        rintro e w5 ⟨lab5, M5, rfl, hT5, hl5, hb5⟩
        obtain ⟨mt, hmt⟩ : ∃ y, M5.t = y := ⟨_, rfl⟩
        rw [hmt]
        have A5 : A7 w4 w5 mt T none lab5 M5 := ⟨hmt, hT5, hl5, hb5, fun p hp => by cases hp⟩
        have HA5 := hid A5
        have S5 : Hid (∀ w' : World, Below w4.heap.size w4 w' → (w'.cell? ⟨d, 0, none⟩ = some (.pointer (some ⟨fb, 0, none⟩)) ∧ w'.cell? ⟨tb + 1, 0, none⟩ = some (.int .i64 (q2.r)) ∧ w'.cell? ⟨tb + 1, 1, none⟩ = some (.int .i64 (q2.s)) ∧ w'.cell? ⟨tb + 1, 2, none⟩ = some (.int .i64 (q2.t)) ∧ w'.cell? ⟨tb + 1, 3, none⟩ = some (.slice go gn gc) ∧ w'.cell? ⟨tb + 1, 4, none⟩ = some (.int .i64 (q2.h)) ∧ w'.cell? ⟨tb + 1, 5, none⟩ = some (.int .i64 (q2.m)))) := fun w' h => by
          have hd := h.block d HE4.out.dl
          have ht := h.block (tb + 1) (by omega)
          exact ⟨(World.cell?_of_block hd).trans HE4.out.d0, (World.cell?_of_block ht).trans r0, (World.cell?_of_block ht).trans r1, (World.cell?_of_block ht).trans r2, (World.cell?_of_block ht).trans r3, (World.cell?_of_block ht).trans r4, (World.cell?_of_block ht).trans r5⟩
        have PL : Hid (∀ (w' : World) (z : Option Nat) (lb : Nat → Nat) (M : TM) (N : PM), A7 w4 w' mt T z lb M → PAt w' lb N fb mt PS.new 0 → Calls Try.prog 38 #[.pointer (some ⟨N.p, 0, none⟩), .agg #[.int .i64 ((q2).r), .int .i64 ((q2).s), .int .i64 ((q2).t), .slice go gn gc, .int .i64 ((q2).h), .int .i64 ((q2).m)]] w' (planPost lb M N fb (PS.plan F T q2 PS.new) w')) := fun w' z lb M N hA hP => by
          have hz : ∀ b, b < w4.heap.size → (lab b = 0 ∨ 10 ≤ lab b) → (lb b = 0 ∨ 10 ≤ lb b) := fun b hb _ => Or.inl (hA.o b hb)
          refine plan_any M T N PS.new 0 fb F lb q2 (.slice go gn gc) w' ((HE4.out.f.relab hz).below hA.b) hA.t (by rw [hA.m]; exact hP) ?_ HQI.out (Nat.zero_le _) (fun i _ => by simp only [PS.new]; omega) HHC.out HNR.out
          rw [HGL.out]
          exact (HE4.out.g.relab hz).below hA.b
        have s5 := S5.out w5 hb5
        obtain ⟨u0, u1, u2, u3, u4, u5, u6⟩ := s5
        clear hT5 hl5 hmt A5 r0 r1 r2 r3 r4 r5 hb5
        go_wp2
        refine region_via (e25R w4 d fb mt T q2 (.slice go gn gc) wn) ?_ ?_
        · --BEGIN 4
          refine wp_region_tree 9 (fun w' => w'.cell? ⟨d, 0, none⟩ = some (.pointer (some ⟨fb, 0, none⟩)) ∧ w'.cell? ⟨tb + 1, 0, none⟩ = some (.int .i64 (q2.r)) ∧ w'.cell? ⟨tb + 1, 1, none⟩ = some (.int .i64 (q2.s)) ∧ w'.cell? ⟨tb + 1, 2, none⟩ = some (.int .i64 (q2.t)) ∧ w'.cell? ⟨tb + 1, 3, none⟩ = some (.slice go gn gc) ∧ w'.cell? ⟨tb + 1, 4, none⟩ = some (.int .i64 (q2.h)) ∧ w'.cell? ⟨tb + 1, 5, none⟩ = some (.int .i64 (q2.m))) (.q 0 false (.q 1 false (.q 2 false (.q 3 true (.q 4 false (.q 6 true (.two 5 8 (.two 7 8 (.one 8 true (.one 9 false .nil)) (.one 7 true (.one 9 false .nil))) (.one 5 true (.one 7 true (.one 9 false .nil)))))))))) (by kernel_rfl) (by kernel_rfl) (by kernel_rfl) ?_ ?_
          · simp [go_sem, ↓IntWalk.iteOmega, *]
          repeat (first | (refine wpTr_qf (v := ?_) rfl rfl ?_ ?_; rotate_left; focus (intro w; go_simp; (try (with_reducible rfl)); done); try simp only [List.getElem_toArray, List.getElem_cons_zero, List.getElem_cons_succ, Act.put, List.setIfInBounds_toArray, List.set_cons_zero, List.set_cons_succ]) | (refine wpTr_qt (v := ?_) rfl rfl ?_ ?_; rotate_left; focus (intro w hSw; (try dsimp only at hSw); go_simp; (try (with_reducible rfl)); done); try simp only [List.getElem_toArray, List.getElem_cons_zero, List.getElem_cons_succ, Act.put, List.setIfInBounds_toArray, List.set_cons_zero, List.set_cons_succ]))
          refine wpTr_two rfl rfl rfl rfl ?_ ?_
          · intro K hK
            go_simp
            go_at_call 37
            refine (newP_any fb mt lab5 _).mono ?_
            rintro e w6 ⟨lab6, N, rfl, hP6, hN6, hl6, hb6⟩
            have A6 : A7 w4 w6 mt T none lab6 M5 := ((HA5.out.below (by (repeat (first | with_reducible exact Below.rf _ | with_reducible exact World.below_ext _ _ | with_reducible refine Below.ex ?_ _ | with_reducible refine Below.al ?_ _ | with_reducible refine Below.setCell ?_ (by simp) _ | with_reducible refine Below.drew ?_)))).relab hl6).below hb6
            refine hK.out _ _ (S5.out _ A6.b) ?_
            clear hK K
            refine wpTr_two rfl rfl rfl rfl ?_ ?_
            · --BEGIN 5
              intro K hK
              go_simp
              go_at_call 38
              refine (PL.out w6 none lab6 M5 N A6 hP6).mono ?_
              rintro e w8 ⟨lab8, M8, N8, n8, v, rfl, hT8, hM8, -, -, hl8, hk8, hV⟩
              obtain ⟨pv, dv, rfl, -, -, hnil⟩ := hV
              rw [HPT.out] at hT8
              rw [HPC.out] at hnil ⊢
              obtain ⟨rfl, rfl⟩ := hnil hw1
              have A8 := A6.kept hT8 hM8 hl8 hk8
              refine hK.out _ _ (S5.out _ A8.b) ?_
              clear hK K hk8
              refine wpTr_one rfl rfl (fun K hK => ?_)
              go_simp
              obtain ⟨w9, hw9⟩ : ∃ y, y = w8.alloc (.cells #[.int .u8 0, .int .i64 (0), .slice none 0 0, .slice none 0 0, .int .i64 (0)] 34) := ⟨_, rfl⟩
              have A9 := A8.al hw9
              rw [← hw9]
              refine hK.out _ _ (fun _ => S5.out _ A9.b) ?_
              clear hK K hw9
              obtain ⟨zB, zl, zp⟩ := A9.z _ rfl
              have z0 := zB.is 0 (by omega)
              have z1 := zB.is 1 (by omega)
              have z2 := zB.is 2 (by omega)
              have z3 := zB.is 3 (by omega)
              have z4 := zB.is 4 (by omega)
              have f0 := zB.fz 0 (by omega)
              have f1 := zB.fz 1 (by omega)
              have f2 := zB.fz 2 (by omega)
              have f3 := zB.fz 3 (by omega)
              have f4 := zB.fz 4 (by omega)
              have zlt := zB.lt
              refine wpTr_one rfl rfl (fun K hK => ?_)
              go_simp
              refine hK.out _ _ (fun h => by cases h) ?_
              clear hK K
              refine wpTr_nil ?_
              refine NoPanic.normal ?_
              obtain ⟨g1, g2, g3⟩ := A9.store (.int .u8 wn) (.int .i64 ((PS.plan F T q2 PS.new).2.2.t)) (.slice none 0 0) (.slice none 0 0) (.int .i64 ((PS.plan F T q2 PS.new).2.2.x)) rfl
              exact ⟨rfl, _, N.p, _, _, .agg #[.int .u8 wn, .int .i64 ((PS.plan F T q2 PS.new).2.2.t), .slice none 0 0, .slice none 0 0, .int .i64 ((PS.plan F T q2 PS.new).2.2.x)], _, _, A9.m, g1, g2, g3, by simp only [Act.put, List.setIfInBounds_toArray, List.set_cons_zero, List.set_cons_succ, List.getElem_toArray, List.getElem_cons_zero, List.getElem_cons_succ]⟩
              --END 5
            · --BEGIN 6
              intro K hK
              go_simp
              obtain ⟨w9, hw9⟩ : ∃ y, y = w6.alloc (.cells #[.int .u8 0, .int .i64 (0), .slice none 0 0, .slice none 0 0, .int .i64 (0)] 34) := ⟨_, rfl⟩
              have A9 := A6.al hw9
              have P9 : PAt w9 (upd lab6 w6.heap.size 0) N fb mt PS.new 0 := (hP6.relab (fun k hk => upd_ne _ _ (by omega))).below (by rw [hw9]; (repeat (first | with_reducible exact Below.rf _ | with_reducible exact World.below_ext _ _ | with_reducible refine Below.ex ?_ _ | with_reducible refine Below.al ?_ _ | with_reducible refine Below.setCell ?_ (by simp) _ | with_reducible refine Below.drew ?_)))
              rw [← hw9]
              refine hK.out _ _ (S5.out _ A9.b) ?_
              clear hK K hw9
              refine wpTr_one rfl rfl (fun K hK => ?_)
              go_simp
              go_at_call 38
              refine (PL.out w9 _ _ M5 N A9 P9).mono ?_
              rintro e w8 ⟨lab8, M8, N8, n8, v, rfl, hT8, hM8, -, -, hl8, hk8, hV⟩
              obtain ⟨pv, dv, rfl, -, -, hnil⟩ := hV
              rw [HPT.out] at hT8
              rw [HPC.out] at hnil ⊢
              obtain ⟨rfl, rfl⟩ := hnil hw1
              have A8 := A9.kept hT8 hM8 hl8 hk8
              refine hK.out _ _ (fun _ => S5.out _ A8.b) ?_
              clear hK K hk8
              obtain ⟨zB, zl, zp⟩ := A8.z _ rfl
              have z0 := zB.is 0 (by omega)
              have z1 := zB.is 1 (by omega)
              have z2 := zB.is 2 (by omega)
              have z3 := zB.is 3 (by omega)
              have z4 := zB.is 4 (by omega)
              have f0 := zB.fz 0 (by omega)
              have f1 := zB.fz 1 (by omega)
              have f2 := zB.fz 2 (by omega)
              have f3 := zB.fz 3 (by omega)
              have f4 := zB.fz 4 (by omega)
              have zlt := zB.lt
              refine wpTr_one rfl rfl (fun K hK => ?_)
              go_simp
              refine hK.out _ _ (fun h => by cases h) ?_
              clear hK K
              refine wpTr_nil ?_
              refine NoPanic.normal ?_
              obtain ⟨g1, g2, g3⟩ := A8.store (.int .u8 wn) (.int .i64 ((PS.plan F T q2 PS.new).2.2.t)) (.slice none 0 0) (.slice none 0 0) (.int .i64 ((PS.plan F T q2 PS.new).2.2.x)) rfl
              exact ⟨rfl, _, N.p, _, _, .agg #[.int .u8 wn, .int .i64 ((PS.plan F T q2 PS.new).2.2.t), .slice none 0 0, .slice none 0 0, .int .i64 ((PS.plan F T q2 PS.new).2.2.x)], _, _, A8.m, g1, g2, g3, by simp only [Act.put, List.setIfInBounds_toArray, List.set_cons_zero, List.set_cons_succ, List.getElem_toArray, List.getElem_cons_zero, List.getElem_cons_succ]⟩
              --END 6
          · --BEGIN 7
            intro K hK
            go_simp
            obtain ⟨w6, hw6⟩ : ∃ y, y = w5.alloc (.cells #[.int .u8 0, .int .i64 (0), .slice none 0 0, .slice none 0 0, .int .i64 (0)] 34) := ⟨_, rfl⟩
            have A6 := HA5.out.al hw6
            rw [← hw6]
            refine hK.out _ _ (S5.out _ (A6.b.trans (Below.mono (by (repeat (first | with_reducible exact Below.rf _ | with_reducible exact World.below_ext _ _ | with_reducible refine Below.ex ?_ _ | with_reducible refine Below.al ?_ _ | with_reducible refine Below.setCell ?_ (by simp) _ | with_reducible refine Below.drew ?_))) A6.b.size))) ?_
            clear hK K hw6
            refine wpTr_one rfl rfl (fun K hK => ?_)
            go_simp
            go_at_call 37
            refine (newP_any fb mt (upd lab5 w5.heap.size 0) _).mono ?_
            rintro e w9 ⟨lab9, N, rfl, P9, hN6, hl9, hb9⟩
            have A9 : A7 w4 w9 mt T (some w5.heap.size) lab9 M5 := ((A6.below (by (repeat (first | with_reducible exact Below.rf _ | with_reducible exact World.below_ext _ _ | with_reducible refine Below.ex ?_ _ | with_reducible refine Below.al ?_ _ | with_reducible refine Below.setCell ?_ (by simp) _ | with_reducible refine Below.drew ?_)))).relab hl9).below hb9
            refine hK.out _ _ (fun _ => S5.out _ A9.b) ?_
            clear hK K
            refine wpTr_one rfl rfl (fun K hK => ?_)
            go_simp
            go_at_call 38
            refine (PL.out w9 _ _ M5 N A9 P9).mono ?_
            rintro e w8 ⟨lab8, M8, N8, n8, v, rfl, hT8, hM8, -, -, hl8, hk8, hV⟩
            obtain ⟨pv, dv, rfl, -, -, hnil⟩ := hV
            rw [HPT.out] at hT8
            rw [HPC.out] at hnil ⊢
            obtain ⟨rfl, rfl⟩ := hnil hw1
            have A8 := A9.kept hT8 hM8 hl8 hk8
            refine hK.out _ _ (fun _ => S5.out _ A8.b) ?_
            clear hK K hk8
            obtain ⟨zB, zl, zp⟩ := A8.z _ rfl
            have z0 := zB.is 0 (by omega)
            have z1 := zB.is 1 (by omega)
            have z2 := zB.is 2 (by omega)
            have z3 := zB.is 3 (by omega)
            have z4 := zB.is 4 (by omega)
            have f0 := zB.fz 0 (by omega)
            have f1 := zB.fz 1 (by omega)
            have f2 := zB.fz 2 (by omega)
            have f3 := zB.fz 3 (by omega)
            have f4 := zB.fz 4 (by omega)
            have zlt := zB.lt
            refine wpTr_one rfl rfl (fun K hK => ?_)
            go_simp
            refine hK.out _ _ (fun h => by cases h) ?_
            clear hK K
            refine wpTr_nil ?_
            refine NoPanic.normal ?_
            obtain ⟨g1, g2, g3⟩ := A8.store (.int .u8 wn) (.int .i64 ((PS.plan F T q2 PS.new).2.2.t)) (.slice none 0 0) (.slice none 0 0) (.int .i64 ((PS.plan F T q2 PS.new).2.2.x)) rfl
            exact ⟨rfl, _, N.p, _, _, .agg #[.int .u8 wn, .int .i64 ((PS.plan F T q2 PS.new).2.2.t), .slice none 0 0, .slice none 0 0, .int .i64 ((PS.plan F T q2 PS.new).2.2.x)], _, _, A8.m, g1, g2, g3, by simp only [Act.put, List.setIfInBounds_toArray, List.set_cons_zero, List.set_cons_succ, List.getElem_toArray, List.getElem_cons_zero, List.getElem_cons_succ]⟩
            --END 7
          --END 4
        · --BEGIN 8
          rintro a w9 ⟨pb, np, tv, xv, v, lab9, M9, hM9, hT9, hb9, hB9, rfl⟩
          simp only [Act.put, List.setIfInBounds_toArray, List.set_cons_zero, List.set_cons_succ]
          have HE9 := hid (HE4.out.below hb9)
          have p0 : w9.cell? ⟨pb, 0, none⟩ = some (.int .u8 wn) := hB9.is 0 (by omega)
          have p2 : w9.cell? ⟨pb, 2, none⟩ = some (.slice none 0 0) := hB9.is 2 (by omega)
          have hpl := hB9.lt
          have t2'' := (World.cell?_of_block (hb9.block tb (by omega))).trans t2'
          have htl : tb < w9.heap.size := by have := hb9.size; omega
          have SM : Hid (∀ w' : World, Below w9.heap.size w9 w' → Calls Try.prog 18 #[.pointer (some ⟨mt, 0, none⟩), .pointer (some ⟨Mc.t, 0, none⟩)] w' fun e w'' => e = .returned (.bool true) ∧ ∃ z, w'' = w'.ext z) := fun w' h => by
            have := same_yes M9 Mc T lab9 labc w' (hT9.below h) (HE9.out.below h).c
            rw [hM9] at this
            exact this
          have HB9 : Hid (Below w7.heap.size w7 w9) := HB4.out.trans (hb9.mono HB4.out.size)
          have dw : ((wn : Int) != (wn : Int)) = false := by simp
          have NS := fun (w' : World) => run_neq_slice_nil_any (P := Try.prog) w' 32 3 none 0 0 0 0 Try.underlying32
          clear hT9 hb9 hB9 u0 u1 u2 u3 u4 u5 u6 S5 PL HA5 t2' t0'
          go_wp2_with (first | (go_at_call 18; refine (SM.out _ (by (repeat (first | with_reducible exact Below.rf _ | with_reducible exact World.below_ext _ _ | with_reducible refine Below.ex ?_ _ | with_reducible refine Below.al ?_ _ | with_reducible refine Below.setCell ?_ (by simp) _ | with_reducible refine Below.drew ?_)))).mono ?_; rintro e w' ⟨rfl, z, rfl⟩))
          go_roundw
          case rel => exact ⟨k + 1, by go_num, by omega, HB9.out.trans (Below.mono (by (repeat (first | with_reducible exact Below.rf _ | with_reducible exact World.below_ext _ _ | with_reducible refine Below.ex ?_ _ | with_reducible refine Below.al ?_ _ | with_reducible refine Below.setCell ?_ (by simp) _ | with_reducible refine Below.drew ?_))) HB9.out.size)⟩
          case measure => (simp [intOf] <;> omega)
          --END 8
        --END 3
      --END 1
    · have dk : decide ((k : Int) < 2) = false := by simp; omega
      have dkn : decide (k < 2) = false := by simp; omega
      clear HE
      go_wp2
      exact ⟨HB.out, pickU rfl⟩
end Go.Proofs.Qxb6500716a
