/-
  Refines: a round of the law, cut out.
-/
import Derived.Test.Qxb6500716aRt
import Derived.Test.Qxb6500716aRu
import Derived.Test.Qxb6500716aRv
import Derived.Test.Qxb6500716aEq
import Derived.Test.Qxb6500716aSs
import Derived.Test.Qxb6500716aSm
import Derived.Test.Qxb6500716aWd
import Derived.WalkSpells
namespace Go.Proofs.Qxb6500716a
open Go.RowKit Go.Maps
set_option linter.unusedSimpArgs false
set_option linter.unusedVariables false
set_option maxRecDepth 20000
set_option maxHeartbeats 4000000
def s7 (xb : Nat) (o : Opr) (v : Value) (w' : World) : Prop := w'.cell? ⟨xb, 0, none⟩ = some (.int .i64 (o.K)) ∧ w'.cell? ⟨xb, 1, none⟩ = some (.int .i64 (o.A)) ∧ w'.cell? ⟨xb, 2, none⟩ = some (.int .i64 (o.B)) ∧ w'.cell? ⟨xb, 3, none⟩ = some (.int .i64 (o.C)) ∧ w'.cell? ⟨xb, 4, none⟩ = some (.int .i64 (o.D)) ∧ w'.cell? ⟨xb, 5, none⟩ = some (.int .i64 (o.E)) ∧ w'.cell? ⟨xb, 6, none⟩ = some v
theorem blk_s7 {w : World} {xb : Nat} {o : Opr} {v : Value} (h : Blk w xb 7 (ocell o v)) : s7 xb o v w := ⟨h.is 0 (by omega), h.is 1 (by omega), h.is 2 (by omega), h.is 3 (by omega), h.is 4 (by omega), h.is 5 (by omega), h.is 6 (by omega)⟩
section
variable {w w' : World} {d mb xb i : Nat} {o : Opr} {ov : Value} {D : Dk} {gs : List Nat} {ga wa : Option Addr} {gn gc wc wn wp : Nat}
theorem QA.s (h : QA w d mb xb i o ov D gs w') : s7 xb o ov w' := by
  obtain ⟨lab, labm, m, fv, tv, h⟩ := h
  exact blk_s7 h.ob
theorem QB.s (h : QB w d mb xb i o ov D gs ga gn gc w') : s7 xb o ov w' := by
  obtain ⟨lab, labm, m, fv, tv, h, hI⟩ := h
  exact blk_s7 h.ob
theorem QC.s (h : QC w d mb xb i o ov D gs ga gn gc wc wa wn wp w') : s7 xb o ov w' := by
  obtain ⟨lab, labm, m, fv, tv, Y, wv, h, hI, hJ, hR⟩ := h
  exact blk_s7 h.ob
theorem QA.lt (h : QA w d mb xb i o ov D gs w') {b : Nat} (hb : b ∈ gs) : b < w'.heap.size := by
  obtain ⟨lab, labm, m, fv, tv, h⟩ := h
  exact (h.gs b hb).1.lt
theorem QB.lt (h : QB w d mb xb i o ov D gs ga gn gc w') {b : Nat} (hb : b ∈ gs) : b < w'.heap.size := by
  obtain ⟨lab, labm, m, fv, tv, h, hI⟩ := h
  exact (h.gs b hb).1.lt
theorem QC.lt (h : QC w d mb xb i o ov D gs ga gn gc wc wa wn wp w') {b : Nat} (hb : b ∈ gs) : b < w'.heap.size := by
  obtain ⟨lab, labm, m, fv, tv, Y, wv, h, hI, hJ, hR⟩ := h
  exact (h.gs b hb).1.lt
theorem QC.g (h : QC w d mb xb i o ov D gs ga gn gc wc wa wn wp w') {b : Nat} (hb : b ∈ gs) : w'.cell? ⟨b, 0, none⟩ = some (.int .u8 0) ∧ w'.cell? ⟨b, 1, none⟩ = some (.slice none 0 0) ∧ w'.frozen? ⟨b, 0, none⟩ = false ∧ w'.frozen? ⟨b, 1, none⟩ = false ∧ b < w'.heap.size ∧ xb ≠ b := by
  obtain ⟨lab, labm, m, fv, tv, Y, wv, h, hI, hJ, hR⟩ := h
  obtain ⟨g1, g2, g3, g4⟩ := h.gs b hb
  exact ⟨g1.is 0 (by omega), g1.is 1 (by omega), g1.fz 0 (by omega), g1.fz 1 (by omega), g1.lt, fun e => by have := h.lo; rw [e, g2.1] at this; omega⟩
end
/-- What the two steps leave. -/
def e7R (w : World) (d mb xb i : Nat) (o : Opr) (ov : Value) (D : Dk) (a a' : Act) (w' : World) : Prop :=
  ∃ g k ga gn gc wc wa wn wp, QF w d mb xb i o ov D g k ga gn gc wc wa wn wp w' ∧
    a' = ((((((((a.put (some 22) (.pointer (some ⟨d, 0, none⟩))).put (some 23) (.agg #[.int .i64 ((o).K), .int .i64 ((o).A), .int .i64 ((o).B), .int .i64 ((o).C), .int .i64 ((o).D), .int .i64 ((o).E), ov])).put (some 25) (.pointer (some ⟨mb, 0, none⟩))).put (some 26) (.agg #[.int .i64 ((o).K), .int .i64 ((o).A), .int .i64 ((o).B), .int .i64 ((o).C), .int .i64 ((o).D), .int .i64 ((o).E), ov])).put (some 24) (.agg #[.int .u8 (D.step o).2.1, .slice ga gn gc])).put (some 27) (.agg #[.int .u8 wc, .slice wa wn wp])).put (some 7) (.pointer (some ⟨g, 0, none⟩))).put (some 8) (.pointer (some ⟨k, 0, none⟩)))
/-- What a round leaves. -/
def rnd3 (sb so n cap d mb i : Nat) (w : World) (Fr : Act → Prop) (e : Exit) (a' : Act) (w'' : World) : Prop :=
  (e = .normal ∨ e = .exit 1) ∧ (∃ (lab labm : Nat → Nat) (m : DM) (D : Dk) (fv tv : Value), Play w w'' lab d (i + 1) m D ∧ D.inv ∧ D.cel ∧ D.fex ∧ Pm w w'' lab labm d mb fv tv (D.W.map mw)) ∧ Fr a'
set_option maxRecDepth 1000000 in
set_option maxHeartbeats 400000000 in
theorem body3 (sb so n cap d mb i : Nat) (o : Nat → Opr) (lao : Nat → Option Addr) (lcap : Nat → Nat) (w wr : World) (lab labm : Nat → Nat) (m : DM) (D : Dk) (fv tv : Value) (hS : Scr w sb so n o lao lcap) (hin : i < n) (hn1 : n ≤ 65536) (hn2 : ∀ i, i < n → (o i).l.length ≤ 65536) (hdw : w.heap.size ≤ d) (hP : Play w wr lab d i m D) (hinv : D.inv) (hcel : D.cel) (hfex : D.fex) (hPm : Pm w wr lab labm d mb fv tv (D.W.map mw)) (x0 x1 x2 x5 x6 x7 x8 x9 x10 x11 x12 x13 x14 x15 x17 x19 x20 x21 x22 x23 x24 x25 x26 x27 x28 x29 x30 x31 x32 x33 x34 x35 x36 x37 x38 x39 x40 x41 x42 x43 x44 x45 x46 x47 x48 x49 x50 x51 x52 x53 x54 x55 x56 x57 x58 x59 x60 x61 x62 x63 x64 x65 x66 x67 x68 x69 x70 x71 x72 x73 x74 x75 x76 x77 x78 x79 x80 x81 x82 x83 x84 x85 x86 x87 x88 x89 x90 x91 x92 x93 x94 x95 x96 x97 x98 x99 x100 x101 x102 x103 x104 x105 x106 x107 x108 x109 x110 x111 x112 x113 x114 x115 x116 x117 x118 x119 x120 x121 x122 x123 x124 x125 x126 : Value) :
    Code.wp Try.prog ((Try.f3.body.bind (findBlock 1)).getD .skip) (rnd3 sb so n cap d mb i w (fun a' => ∃ UBO : Nat → Value, a' = ⟨List.toArray (x0 :: x1 :: UBO 2 :: .pointer (some ⟨d, 0, none⟩) :: .pointer (some ⟨mb, 0, none⟩) :: x5 :: UBO 6 :: UBO 7 :: UBO 8 :: x9 :: x10 :: x11 :: x12 :: x13 :: x14 :: x15 :: (.slice (some ⟨sb, so, none⟩) n cap) :: x17 :: .int .i64 (i) :: x19 :: UBO 20 :: UBO 21 :: UBO 22 :: UBO 23 :: UBO 24 :: UBO 25 :: UBO 26 :: UBO 27 :: UBO 28 :: UBO 29 :: UBO 30 :: UBO 31 :: UBO 32 :: UBO 33 :: UBO 34 :: UBO 35 :: UBO 36 :: UBO 37 :: UBO 38 :: UBO 39 :: UBO 40 :: UBO 41 :: UBO 42 :: UBO 43 :: UBO 44 :: UBO 45 :: UBO 46 :: UBO 47 :: UBO 48 :: UBO 49 :: UBO 50 :: UBO 51 :: UBO 52 :: UBO 53 :: UBO 54 :: UBO 55 :: UBO 56 :: UBO 57 :: UBO 58 :: UBO 59 :: UBO 60 :: UBO 61 :: UBO 62 :: UBO 63 :: UBO 64 :: UBO 65 :: UBO 66 :: UBO 67 :: UBO 68 :: UBO 69 :: UBO 70 :: UBO 71 :: UBO 72 :: UBO 73 :: UBO 74 :: UBO 75 :: UBO 76 :: UBO 77 :: UBO 78 :: UBO 79 :: UBO 80 :: UBO 81 :: UBO 82 :: UBO 83 :: UBO 84 :: UBO 85 :: UBO 86 :: UBO 87 :: UBO 88 :: UBO 89 :: UBO 90 :: UBO 91 :: UBO 92 :: UBO 93 :: UBO 94 :: UBO 95 :: UBO 96 :: UBO 97 :: UBO 98 :: UBO 99 :: UBO 100 :: UBO 101 :: UBO 102 :: UBO 103 :: UBO 104 :: UBO 105 :: UBO 106 :: UBO 107 :: UBO 108 :: UBO 109 :: UBO 110 :: UBO 111 :: UBO 112 :: UBO 113 :: UBO 114 :: UBO 115 :: UBO 116 :: UBO 117 :: UBO 118 :: UBO 119 :: UBO 120 :: UBO 121 :: UBO 122 :: UBO 123 :: UBO 124 :: UBO 125 :: x126 :: []), []⟩)) ⟨List.toArray (x0 :: x1 :: x2 :: .pointer (some ⟨d, 0, none⟩) :: .pointer (some ⟨mb, 0, none⟩) :: x5 :: x6 :: x7 :: x8 :: x9 :: x10 :: x11 :: x12 :: x13 :: x14 :: x15 :: (.slice (some ⟨sb, so, none⟩) n cap) :: x17 :: .int .i64 (i) :: x19 :: x20 :: x21 :: x22 :: x23 :: x24 :: x25 :: x26 :: x27 :: x28 :: x29 :: x30 :: x31 :: x32 :: x33 :: x34 :: x35 :: x36 :: x37 :: x38 :: x39 :: x40 :: x41 :: x42 :: x43 :: x44 :: x45 :: x46 :: x47 :: x48 :: x49 :: x50 :: x51 :: x52 :: x53 :: x54 :: x55 :: x56 :: x57 :: x58 :: x59 :: x60 :: x61 :: x62 :: x63 :: x64 :: x65 :: x66 :: x67 :: x68 :: x69 :: x70 :: x71 :: x72 :: x73 :: x74 :: x75 :: x76 :: x77 :: x78 :: x79 :: x80 :: x81 :: x82 :: x83 :: x84 :: x85 :: x86 :: x87 :: x88 :: x89 :: x90 :: x91 :: x92 :: x93 :: x94 :: x95 :: x96 :: x97 :: x98 :: x99 :: x100 :: x101 :: x102 :: x103 :: x104 :: x105 :: x106 :: x107 :: x108 :: x109 :: x110 :: x111 :: x112 :: x113 :: x114 :: x115 :: x116 :: x117 :: x118 :: x119 :: x120 :: x121 :: x122 :: x123 :: x124 :: x125 :: x126 :: []), []⟩ wr := by
  conv => arg 2; whnf
  have HS := hid hS
  have HN2 := hid hn2
  have HINV := hid hinv
  have HCEL := hid hcel
  have HFEX := hid hfex
  obtain ⟨c0, c1, c2, c3, c4, c5, c6⟩ := (HS.out.below hP.bl).cells i hin
  have hsb := (HS.out.below hP.bl).hsb
  have HP := hid hP
  have HPM := hid hPm
  have HXX : Hid (∀ X, D.W = some X → X.T.held ≤ X.T.cap ∧ FEx X.F) := fun X hX => ⟨(hP.wb X hX).held, hfex X hX⟩
  have HNN : Hid (∀ X, D.W = some X → X.T.nr = X.F.bays.length) := fun X hX => (hP.wb X hX).nr
  clear hS hn2 hinv hcel hfex hP hPm
  go_wp2
  refine wp_nm fun w1 hw1 => ?_
  have B1 : Below wr.heap.size wr w1 := by rw [hw1]; (repeat (first | with_reducible exact Below.rf _ | with_reducible exact World.below_ext _ _ | with_reducible refine Below.ex ?_ _ | with_reducible refine Below.al ?_ _ | with_reducible refine Below.setCell ?_ (by simp) _ | with_reducible refine Below.drew ?_))
  have X1 : Blk w1 wr.heap.size 7 (ocell (o i) (.slice (lao i) (o i).l.length (lcap i))) := by
    rw [hw1]
    refine ⟨by (simp <;> omega), fun i hi => ?_, fun i hi => by simp [go_sem, ↓IntWalk.iteOmega]⟩
    rcases (by omega : i = 0 ∨ i = 1 ∨ i = 2 ∨ i = 3 ∨ i = 4 ∨ i = 5 ∨ i = 6) with rfl | rfl | rfl | rfl | rfl | rfl | rfl <;> simp [go_sem, ↓IntWalk.iteOmega, ocell]
  have hQ : Hid (QA w d mb wr.heap.size i (o i) (.slice (lao i) (o i).l.length (lcap i)) D [] w1) := by
    have hud : ∀ b, b < wr.heap.size → (fun b => if b < wr.heap.size then lab b else 0) b = lab b := fun b hb => if_pos hb
    have hun : (fun b => if b < wr.heap.size then lab b else 0) wr.heap.size = 0 := if_neg (by omega)
    obtain ⟨labm2, q1, q2, q3⟩ := HPM.out.below HP.out.bl.size B1 hud
    exact ⟨_, labm2, m, fv, tv, (HP.out.relab hud).below B1, q3, X1, hun, fun b hb => by simp at hb⟩
  have hx1 := X1.lt
  clear hw1 c0 c1 c2 c3 c4 c5 c6 hsb HPM
  obtain ⟨xb, hxb⟩ : ∃ y, wr.heap.size = y := ⟨_, rfl⟩
  rw [hxb] at hQ X1 hx1 ⊢
  have HFK := hid HP.out.fok
  have HWB := hid HP.out.wb
  clear hxb B1 HP
  obtain ⟨x0, x1, x2, x3, x4, x5, x6⟩ := blk_s7 X1
  clear X1
  refine region_via (e7R w d mb xb i (o i) (.slice (lao i) (o i).l.length (lcap i)) D) ?_ ?_
  · --BEGIN 1
    refine wp_region_tree 9 (fun w' => (w').cell? ⟨xb, 0, none⟩ = some (.int .i64 ((o i).K)) ∧ (w').cell? ⟨xb, 1, none⟩ = some (.int .i64 ((o i).A)) ∧ (w').cell? ⟨xb, 2, none⟩ = some (.int .i64 ((o i).B)) ∧ (w').cell? ⟨xb, 3, none⟩ = some (.int .i64 ((o i).C)) ∧ (w').cell? ⟨xb, 4, none⟩ = some (.int .i64 ((o i).D)) ∧ (w').cell? ⟨xb, 5, none⟩ = some (.int .i64 ((o i).E)) ∧ (w').cell? ⟨xb, 6, none⟩ = some (.slice (lao i) (o i).l.length (lcap i))) (.q 0 false (.q 1 true (.q 3 false (.q 4 true (.three 2 6 7 (.three 5 6 7 (.two 6 7 (.one 7 true (.one 8 true (.one 9 false .nil))) (.one 6 true (.one 8 true (.one 9 false .nil)))) (.two 5 7 (.one 7 true (.one 8 true (.one 9 false .nil))) (.one 5 true (.one 8 true (.one 9 false .nil)))) (.two 5 6 (.one 6 true (.one 8 true (.one 9 false .nil))) (.one 5 true (.one 8 true (.one 9 false .nil))))) (.two 2 7 (.two 5 7 (.one 7 true (.one 8 true (.one 9 false .nil))) (.one 5 true (.one 8 true (.one 9 false .nil)))) (.one 2 true (.one 5 true (.one 8 true (.one 9 false .nil))))) (.two 2 6 (.two 5 6 (.one 6 true (.one 8 true (.one 9 false .nil))) (.one 5 true (.one 8 true (.one 9 false .nil)))) (.one 2 true (.one 5 true (.one 8 true (.one 9 false .nil)))))))))) (by kernel_rfl) (by kernel_rfl) (by kernel_rfl) ?_ ?_
    · simp [go_sem, ↓IntWalk.iteOmega, *]
    repeat (first | (refine wpTr_qf (v := ?_) rfl rfl ?_ ?_; rotate_left; focus (intro w; go_simp; (try (with_reducible rfl)); done); try simp only [List.getElem_toArray, List.getElem_cons_zero, List.getElem_cons_succ, Act.put, List.setIfInBounds_toArray, List.set_cons_zero, List.set_cons_succ]) | (refine wpTr_qt (v := ?_) rfl rfl ?_ ?_; rotate_left; focus (intro w hSw; (try dsimp only at hSw); go_simp; (try (with_reducible rfl)); done); try simp only [List.getElem_toArray, List.getElem_cons_zero, List.getElem_cons_succ, Act.put, List.setIfInBounds_toArray, List.set_cons_zero, List.set_cons_succ]))
    have hq := hQ.out.below (Below.drew (Below.rf w1))
    generalize w1.drew = wD at *
    refine wpTr_three rfl rfl rfl rfl rfl rfl ?_ ?_ ?_
    · intro K hK
      go_simp
      go_at_call 12
      refine (hq.call HS.out hin hn1 (HN2.out i hin)).mono ?_
      rintro e wz1 ⟨ga, gn, gc, rfl, hq2⟩
      clear hq
      have hq := hq2
      clear hq2
      refine hK.out _ _ hq.s ?_
      clear hK K
      refine wpTr_three rfl rfl rfl rfl rfl rfl ?_ ?_ ?_
      · intro K hK
        go_simp
        go_at_call 13
        refine (hq.call HS.out hin (HN2.out i hin) HXX.out HNN.out).mono ?_
        rintro e wz2 ⟨wc, wa, wn, wp, rfl, hq2⟩
        clear hq
        have hq := hq2
        clear hq2
        refine hK.out _ _ hq.s ?_
        clear hK K
        refine wpTr_two rfl rfl rfl rfl ?_ ?_
        · intro K hK
          go_simp
          obtain ⟨wz3, hw2⟩ : ∃ y, y = wz2.alloc (Obj.cells #[.int .u8 0, .slice none 0 0] 44) := ⟨_, rfl⟩
          rw [← hw2]
          have hq2 := hq.al hw2
          obtain ⟨g, hg⟩ : ∃ y, wz2.heap.size = y := ⟨_, rfl⟩
          rw [hg] at hq2 ⊢
          clear hq hw2 hg
          have hq := hq2
          clear hq2
          refine hK.out _ _ hq.s ?_
          clear hK K
          refine wpTr_one rfl rfl (fun K hK => ?_)
          go_simp
          obtain ⟨wz4, hw2⟩ : ∃ y, y = wz3.alloc (Obj.cells #[.int .u8 0, .slice none 0 0] 44) := ⟨_, rfl⟩
          rw [← hw2]
          have hq2 := hq.al hw2
          have hlt := hq.lt (List.mem_singleton.2 rfl)
          obtain ⟨k, hg⟩ : ∃ y, wz3.heap.size = y := ⟨_, rfl⟩
          rw [hg] at hq2 hlt ⊢
          have hne : g ≠ k := by omega
          clear hq hw2 hg hlt
          have hq := hq2
          clear hq2
          refine hK.out _ _ (fun _ => hq.s) ?_
          clear hK K
          obtain ⟨g0, g1, gz0, gz1, gl, hxg⟩ := hq.g (b := g) (by simp)
          obtain ⟨k0, k1, kz0, kz1, kl, hxk⟩ := hq.g (b := k) (by simp)
          obtain ⟨x0, x1, x2, x3, x4, x5, x6⟩ := hq.s
          have hxg2 : ¬ g = xb := fun e => hxg e.symm
          have hxk2 : ¬ k = xb := fun e => hxk e.symm
          have hne2 : ¬ k = g := fun e => hne e.symm
          have hF := hid (hq.fin g k (by simp) (by simp) hne)
          clear hq
          refine wpTr_one rfl rfl (fun K hK => ?_)
          go_simp
          refine hK.out _ _ (fun _ => by simp [go_sem, ↓IntWalk.iteOmega, *]) ?_
          clear hK K
          refine wpTr_one rfl rfl (fun K hK => ?_)
          go_simp
          refine hK.out _ _ (fun h => by cases h) ?_
          clear hK K
          refine wpTr_nil ?_
          refine NoPanic.normal ?_
          exact ⟨rfl, g, k, ga, gn, gc, wc, wa, wn, wp, hF.out, by simp only [Act.put, List.setIfInBounds_toArray, List.set_cons_zero, List.set_cons_succ, List.getElem_toArray, List.getElem_cons_zero, List.getElem_cons_succ]⟩
        · intro K hK
          go_simp
          obtain ⟨wz5, hw2⟩ : ∃ y, y = wz2.alloc (Obj.cells #[.int .u8 0, .slice none 0 0] 44) := ⟨_, rfl⟩
          rw [← hw2]
          have hq2 := hq.al hw2
          obtain ⟨k, hg⟩ : ∃ y, wz2.heap.size = y := ⟨_, rfl⟩
          rw [hg] at hq2 ⊢
          clear hq hw2 hg
          have hq := hq2
          clear hq2
          refine hK.out _ _ hq.s ?_
          clear hK K
          refine wpTr_one rfl rfl (fun K hK => ?_)
          go_simp
          obtain ⟨wz6, hw2⟩ : ∃ y, y = wz5.alloc (Obj.cells #[.int .u8 0, .slice none 0 0] 44) := ⟨_, rfl⟩
          rw [← hw2]
          have hq2 := hq.al hw2
          have hlt := hq.lt (List.mem_singleton.2 rfl)
          obtain ⟨g, hg⟩ : ∃ y, wz5.heap.size = y := ⟨_, rfl⟩
          rw [hg] at hq2 hlt ⊢
          have hne : g ≠ k := by omega
          clear hq hw2 hg hlt
          have hq := hq2
          clear hq2
          refine hK.out _ _ (fun _ => hq.s) ?_
          clear hK K
          obtain ⟨g0, g1, gz0, gz1, gl, hxg⟩ := hq.g (b := g) (by simp)
          obtain ⟨k0, k1, kz0, kz1, kl, hxk⟩ := hq.g (b := k) (by simp)
          obtain ⟨x0, x1, x2, x3, x4, x5, x6⟩ := hq.s
          have hxg2 : ¬ g = xb := fun e => hxg e.symm
          have hxk2 : ¬ k = xb := fun e => hxk e.symm
          have hne2 : ¬ k = g := fun e => hne e.symm
          have hF := hid (hq.fin g k (by simp) (by simp) hne)
          clear hq
          refine wpTr_one rfl rfl (fun K hK => ?_)
          go_simp
          refine hK.out _ _ (fun _ => by simp [go_sem, ↓IntWalk.iteOmega, *]) ?_
          clear hK K
          refine wpTr_one rfl rfl (fun K hK => ?_)
          go_simp
          refine hK.out _ _ (fun h => by cases h) ?_
          clear hK K
          refine wpTr_nil ?_
          refine NoPanic.normal ?_
          exact ⟨rfl, g, k, ga, gn, gc, wc, wa, wn, wp, hF.out, by simp only [Act.put, List.setIfInBounds_toArray, List.set_cons_zero, List.set_cons_succ, List.getElem_toArray, List.getElem_cons_zero, List.getElem_cons_succ]⟩
      · intro K hK
        go_simp
        obtain ⟨wz7, hw2⟩ : ∃ y, y = wz1.alloc (Obj.cells #[.int .u8 0, .slice none 0 0] 44) := ⟨_, rfl⟩
        rw [← hw2]
        have hq2 := hq.al hw2
        obtain ⟨g, hg⟩ : ∃ y, wz1.heap.size = y := ⟨_, rfl⟩
        rw [hg] at hq2 ⊢
        clear hq hw2 hg
        have hq := hq2
        clear hq2
        refine hK.out _ _ hq.s ?_
        clear hK K
        refine wpTr_two rfl rfl rfl rfl ?_ ?_
        · intro K hK
          go_simp
          go_at_call 13
          refine (hq.call HS.out hin (HN2.out i hin) HXX.out HNN.out).mono ?_
          rintro e wz8 ⟨wc, wa, wn, wp, rfl, hq2⟩
          clear hq
          have hq := hq2
          clear hq2
          refine hK.out _ _ hq.s ?_
          clear hK K
          refine wpTr_one rfl rfl (fun K hK => ?_)
          go_simp
          obtain ⟨wz9, hw2⟩ : ∃ y, y = wz8.alloc (Obj.cells #[.int .u8 0, .slice none 0 0] 44) := ⟨_, rfl⟩
          rw [← hw2]
          have hq2 := hq.al hw2
          have hlt := hq.lt (List.mem_singleton.2 rfl)
          obtain ⟨k, hg⟩ : ∃ y, wz8.heap.size = y := ⟨_, rfl⟩
          rw [hg] at hq2 hlt ⊢
          have hne : g ≠ k := by omega
          clear hq hw2 hg hlt
          have hq := hq2
          clear hq2
          refine hK.out _ _ (fun _ => hq.s) ?_
          clear hK K
          obtain ⟨g0, g1, gz0, gz1, gl, hxg⟩ := hq.g (b := g) (by simp)
          obtain ⟨k0, k1, kz0, kz1, kl, hxk⟩ := hq.g (b := k) (by simp)
          obtain ⟨x0, x1, x2, x3, x4, x5, x6⟩ := hq.s
          have hxg2 : ¬ g = xb := fun e => hxg e.symm
          have hxk2 : ¬ k = xb := fun e => hxk e.symm
          have hne2 : ¬ k = g := fun e => hne e.symm
          have hF := hid (hq.fin g k (by simp) (by simp) hne)
          clear hq
          refine wpTr_one rfl rfl (fun K hK => ?_)
          go_simp
          refine hK.out _ _ (fun _ => by simp [go_sem, ↓IntWalk.iteOmega, *]) ?_
          clear hK K
          refine wpTr_one rfl rfl (fun K hK => ?_)
          go_simp
          refine hK.out _ _ (fun h => by cases h) ?_
          clear hK K
          refine wpTr_nil ?_
          refine NoPanic.normal ?_
          exact ⟨rfl, g, k, ga, gn, gc, wc, wa, wn, wp, hF.out, by simp only [Act.put, List.setIfInBounds_toArray, List.set_cons_zero, List.set_cons_succ, List.getElem_toArray, List.getElem_cons_zero, List.getElem_cons_succ]⟩
        · intro K hK
          go_simp
          obtain ⟨wz10, hw2⟩ : ∃ y, y = wz7.alloc (Obj.cells #[.int .u8 0, .slice none 0 0] 44) := ⟨_, rfl⟩
          rw [← hw2]
          have hq2 := hq.al hw2
          have hlt := hq.lt (List.mem_singleton.2 rfl)
          obtain ⟨k, hg⟩ : ∃ y, wz7.heap.size = y := ⟨_, rfl⟩
          rw [hg] at hq2 hlt ⊢
          have hne : g ≠ k := by omega
          clear hq hw2 hg hlt
          have hq := hq2
          clear hq2
          refine hK.out _ _ hq.s ?_
          clear hK K
          refine wpTr_one rfl rfl (fun K hK => ?_)
          go_simp
          go_at_call 13
          refine (hq.call HS.out hin (HN2.out i hin) HXX.out HNN.out).mono ?_
          rintro e wz11 ⟨wc, wa, wn, wp, rfl, hq2⟩
          clear hq
          have hq := hq2
          clear hq2
          refine hK.out _ _ (fun _ => hq.s) ?_
          clear hK K
          obtain ⟨g0, g1, gz0, gz1, gl, hxg⟩ := hq.g (b := g) (by simp)
          obtain ⟨k0, k1, kz0, kz1, kl, hxk⟩ := hq.g (b := k) (by simp)
          obtain ⟨x0, x1, x2, x3, x4, x5, x6⟩ := hq.s
          have hxg2 : ¬ g = xb := fun e => hxg e.symm
          have hxk2 : ¬ k = xb := fun e => hxk e.symm
          have hne2 : ¬ k = g := fun e => hne e.symm
          have hF := hid (hq.fin g k (by simp) (by simp) hne)
          clear hq
          refine wpTr_one rfl rfl (fun K hK => ?_)
          go_simp
          refine hK.out _ _ (fun _ => by simp [go_sem, ↓IntWalk.iteOmega, *]) ?_
          clear hK K
          refine wpTr_one rfl rfl (fun K hK => ?_)
          go_simp
          refine hK.out _ _ (fun h => by cases h) ?_
          clear hK K
          refine wpTr_nil ?_
          refine NoPanic.normal ?_
          exact ⟨rfl, g, k, ga, gn, gc, wc, wa, wn, wp, hF.out, by simp only [Act.put, List.setIfInBounds_toArray, List.set_cons_zero, List.set_cons_succ, List.getElem_toArray, List.getElem_cons_zero, List.getElem_cons_succ]⟩
      · intro K hK
        go_simp
        obtain ⟨wz12, hw2⟩ : ∃ y, y = wz1.alloc (Obj.cells #[.int .u8 0, .slice none 0 0] 44) := ⟨_, rfl⟩
        rw [← hw2]
        have hq2 := hq.al hw2
        obtain ⟨k, hg⟩ : ∃ y, wz1.heap.size = y := ⟨_, rfl⟩
        rw [hg] at hq2 ⊢
        clear hq hw2 hg
        have hq := hq2
        clear hq2
        refine hK.out _ _ hq.s ?_
        clear hK K
        refine wpTr_two rfl rfl rfl rfl ?_ ?_
        · intro K hK
          go_simp
          go_at_call 13
          refine (hq.call HS.out hin (HN2.out i hin) HXX.out HNN.out).mono ?_
          rintro e wz13 ⟨wc, wa, wn, wp, rfl, hq2⟩
          clear hq
          have hq := hq2
          clear hq2
          refine hK.out _ _ hq.s ?_
          clear hK K
          refine wpTr_one rfl rfl (fun K hK => ?_)
          go_simp
          obtain ⟨wz14, hw2⟩ : ∃ y, y = wz13.alloc (Obj.cells #[.int .u8 0, .slice none 0 0] 44) := ⟨_, rfl⟩
          rw [← hw2]
          have hq2 := hq.al hw2
          have hlt := hq.lt (List.mem_singleton.2 rfl)
          obtain ⟨g, hg⟩ : ∃ y, wz13.heap.size = y := ⟨_, rfl⟩
          rw [hg] at hq2 hlt ⊢
          have hne : g ≠ k := by omega
          clear hq hw2 hg hlt
          have hq := hq2
          clear hq2
          refine hK.out _ _ (fun _ => hq.s) ?_
          clear hK K
          obtain ⟨g0, g1, gz0, gz1, gl, hxg⟩ := hq.g (b := g) (by simp)
          obtain ⟨k0, k1, kz0, kz1, kl, hxk⟩ := hq.g (b := k) (by simp)
          obtain ⟨x0, x1, x2, x3, x4, x5, x6⟩ := hq.s
          have hxg2 : ¬ g = xb := fun e => hxg e.symm
          have hxk2 : ¬ k = xb := fun e => hxk e.symm
          have hne2 : ¬ k = g := fun e => hne e.symm
          have hF := hid (hq.fin g k (by simp) (by simp) hne)
          clear hq
          refine wpTr_one rfl rfl (fun K hK => ?_)
          go_simp
          refine hK.out _ _ (fun _ => by simp [go_sem, ↓IntWalk.iteOmega, *]) ?_
          clear hK K
          refine wpTr_one rfl rfl (fun K hK => ?_)
          go_simp
          refine hK.out _ _ (fun h => by cases h) ?_
          clear hK K
          refine wpTr_nil ?_
          refine NoPanic.normal ?_
          exact ⟨rfl, g, k, ga, gn, gc, wc, wa, wn, wp, hF.out, by simp only [Act.put, List.setIfInBounds_toArray, List.set_cons_zero, List.set_cons_succ, List.getElem_toArray, List.getElem_cons_zero, List.getElem_cons_succ]⟩
        · intro K hK
          go_simp
          obtain ⟨wz15, hw2⟩ : ∃ y, y = wz12.alloc (Obj.cells #[.int .u8 0, .slice none 0 0] 44) := ⟨_, rfl⟩
          rw [← hw2]
          have hq2 := hq.al hw2
          have hlt := hq.lt (List.mem_singleton.2 rfl)
          obtain ⟨g, hg⟩ : ∃ y, wz12.heap.size = y := ⟨_, rfl⟩
          rw [hg] at hq2 hlt ⊢
          have hne : g ≠ k := by omega
          clear hq hw2 hg hlt
          have hq := hq2
          clear hq2
          refine hK.out _ _ hq.s ?_
          clear hK K
          refine wpTr_one rfl rfl (fun K hK => ?_)
          go_simp
          go_at_call 13
          refine (hq.call HS.out hin (HN2.out i hin) HXX.out HNN.out).mono ?_
          rintro e wz16 ⟨wc, wa, wn, wp, rfl, hq2⟩
          clear hq
          have hq := hq2
          clear hq2
          refine hK.out _ _ (fun _ => hq.s) ?_
          clear hK K
          obtain ⟨g0, g1, gz0, gz1, gl, hxg⟩ := hq.g (b := g) (by simp)
          obtain ⟨k0, k1, kz0, kz1, kl, hxk⟩ := hq.g (b := k) (by simp)
          obtain ⟨x0, x1, x2, x3, x4, x5, x6⟩ := hq.s
          have hxg2 : ¬ g = xb := fun e => hxg e.symm
          have hxk2 : ¬ k = xb := fun e => hxk e.symm
          have hne2 : ¬ k = g := fun e => hne e.symm
          have hF := hid (hq.fin g k (by simp) (by simp) hne)
          clear hq
          refine wpTr_one rfl rfl (fun K hK => ?_)
          go_simp
          refine hK.out _ _ (fun _ => by simp [go_sem, ↓IntWalk.iteOmega, *]) ?_
          clear hK K
          refine wpTr_one rfl rfl (fun K hK => ?_)
          go_simp
          refine hK.out _ _ (fun h => by cases h) ?_
          clear hK K
          refine wpTr_nil ?_
          refine NoPanic.normal ?_
          exact ⟨rfl, g, k, ga, gn, gc, wc, wa, wn, wp, hF.out, by simp only [Act.put, List.setIfInBounds_toArray, List.set_cons_zero, List.set_cons_succ, List.getElem_toArray, List.getElem_cons_zero, List.getElem_cons_succ]⟩
    · intro K hK
      go_simp
      obtain ⟨wz17, hw2⟩ : ∃ y, y = wD.alloc (Obj.cells #[.int .u8 0, .slice none 0 0] 44) := ⟨_, rfl⟩
      rw [← hw2]
      have hq2 := hq.al hw2
      obtain ⟨g, hg⟩ : ∃ y, wD.heap.size = y := ⟨_, rfl⟩
      rw [hg] at hq2 ⊢
      clear hq hw2 hg
      have hq := hq2
      clear hq2
      refine hK.out _ _ hq.s ?_
      clear hK K
      refine wpTr_two rfl rfl rfl rfl ?_ ?_
      · intro K hK
        go_simp
        go_at_call 12
        refine (hq.call HS.out hin hn1 (HN2.out i hin)).mono ?_
        rintro e wz18 ⟨ga, gn, gc, rfl, hq2⟩
        clear hq
        have hq := hq2
        clear hq2
        refine hK.out _ _ hq.s ?_
        clear hK K
        refine wpTr_two rfl rfl rfl rfl ?_ ?_
        · intro K hK
          go_simp
          go_at_call 13
          refine (hq.call HS.out hin (HN2.out i hin) HXX.out HNN.out).mono ?_
          rintro e wz19 ⟨wc, wa, wn, wp, rfl, hq2⟩
          clear hq
          have hq := hq2
          clear hq2
          refine hK.out _ _ hq.s ?_
          clear hK K
          refine wpTr_one rfl rfl (fun K hK => ?_)
          go_simp
          obtain ⟨wz20, hw2⟩ : ∃ y, y = wz19.alloc (Obj.cells #[.int .u8 0, .slice none 0 0] 44) := ⟨_, rfl⟩
          rw [← hw2]
          have hq2 := hq.al hw2
          have hlt := hq.lt (List.mem_singleton.2 rfl)
          obtain ⟨k, hg⟩ : ∃ y, wz19.heap.size = y := ⟨_, rfl⟩
          rw [hg] at hq2 hlt ⊢
          have hne : g ≠ k := by omega
          clear hq hw2 hg hlt
          have hq := hq2
          clear hq2
          refine hK.out _ _ (fun _ => hq.s) ?_
          clear hK K
          obtain ⟨g0, g1, gz0, gz1, gl, hxg⟩ := hq.g (b := g) (by simp)
          obtain ⟨k0, k1, kz0, kz1, kl, hxk⟩ := hq.g (b := k) (by simp)
          obtain ⟨x0, x1, x2, x3, x4, x5, x6⟩ := hq.s
          have hxg2 : ¬ g = xb := fun e => hxg e.symm
          have hxk2 : ¬ k = xb := fun e => hxk e.symm
          have hne2 : ¬ k = g := fun e => hne e.symm
          have hF := hid (hq.fin g k (by simp) (by simp) hne)
          clear hq
          refine wpTr_one rfl rfl (fun K hK => ?_)
          go_simp
          refine hK.out _ _ (fun _ => by simp [go_sem, ↓IntWalk.iteOmega, *]) ?_
          clear hK K
          refine wpTr_one rfl rfl (fun K hK => ?_)
          go_simp
          refine hK.out _ _ (fun h => by cases h) ?_
          clear hK K
          refine wpTr_nil ?_
          refine NoPanic.normal ?_
          exact ⟨rfl, g, k, ga, gn, gc, wc, wa, wn, wp, hF.out, by simp only [Act.put, List.setIfInBounds_toArray, List.set_cons_zero, List.set_cons_succ, List.getElem_toArray, List.getElem_cons_zero, List.getElem_cons_succ]⟩
        · intro K hK
          go_simp
          obtain ⟨wz21, hw2⟩ : ∃ y, y = wz18.alloc (Obj.cells #[.int .u8 0, .slice none 0 0] 44) := ⟨_, rfl⟩
          rw [← hw2]
          have hq2 := hq.al hw2
          have hlt := hq.lt (List.mem_singleton.2 rfl)
          obtain ⟨k, hg⟩ : ∃ y, wz18.heap.size = y := ⟨_, rfl⟩
          rw [hg] at hq2 hlt ⊢
          have hne : g ≠ k := by omega
          clear hq hw2 hg hlt
          have hq := hq2
          clear hq2
          refine hK.out _ _ hq.s ?_
          clear hK K
          refine wpTr_one rfl rfl (fun K hK => ?_)
          go_simp
          go_at_call 13
          refine (hq.call HS.out hin (HN2.out i hin) HXX.out HNN.out).mono ?_
          rintro e wz22 ⟨wc, wa, wn, wp, rfl, hq2⟩
          clear hq
          have hq := hq2
          clear hq2
          refine hK.out _ _ (fun _ => hq.s) ?_
          clear hK K
          obtain ⟨g0, g1, gz0, gz1, gl, hxg⟩ := hq.g (b := g) (by simp)
          obtain ⟨k0, k1, kz0, kz1, kl, hxk⟩ := hq.g (b := k) (by simp)
          obtain ⟨x0, x1, x2, x3, x4, x5, x6⟩ := hq.s
          have hxg2 : ¬ g = xb := fun e => hxg e.symm
          have hxk2 : ¬ k = xb := fun e => hxk e.symm
          have hne2 : ¬ k = g := fun e => hne e.symm
          have hF := hid (hq.fin g k (by simp) (by simp) hne)
          clear hq
          refine wpTr_one rfl rfl (fun K hK => ?_)
          go_simp
          refine hK.out _ _ (fun _ => by simp [go_sem, ↓IntWalk.iteOmega, *]) ?_
          clear hK K
          refine wpTr_one rfl rfl (fun K hK => ?_)
          go_simp
          refine hK.out _ _ (fun h => by cases h) ?_
          clear hK K
          refine wpTr_nil ?_
          refine NoPanic.normal ?_
          exact ⟨rfl, g, k, ga, gn, gc, wc, wa, wn, wp, hF.out, by simp only [Act.put, List.setIfInBounds_toArray, List.set_cons_zero, List.set_cons_succ, List.getElem_toArray, List.getElem_cons_zero, List.getElem_cons_succ]⟩
      · intro K hK
        go_simp
        obtain ⟨wz23, hw2⟩ : ∃ y, y = wz17.alloc (Obj.cells #[.int .u8 0, .slice none 0 0] 44) := ⟨_, rfl⟩
        rw [← hw2]
        have hq2 := hq.al hw2
        have hlt := hq.lt (List.mem_singleton.2 rfl)
        obtain ⟨k, hg⟩ : ∃ y, wz17.heap.size = y := ⟨_, rfl⟩
        rw [hg] at hq2 hlt ⊢
        have hne : g ≠ k := by omega
        clear hq hw2 hg hlt
        have hq := hq2
        clear hq2
        refine hK.out _ _ hq.s ?_
        clear hK K
        refine wpTr_one rfl rfl (fun K hK => ?_)
        go_simp
        go_at_call 12
        refine (hq.call HS.out hin hn1 (HN2.out i hin)).mono ?_
        rintro e wz24 ⟨ga, gn, gc, rfl, hq2⟩
        clear hq
        have hq := hq2
        clear hq2
        refine hK.out _ _ (fun _ => hq.s) ?_
        clear hK K
        refine wpTr_one rfl rfl (fun K hK => ?_)
        go_simp
        go_at_call 13
        refine (hq.call HS.out hin (HN2.out i hin) HXX.out HNN.out).mono ?_
        rintro e wz25 ⟨wc, wa, wn, wp, rfl, hq2⟩
        clear hq
        have hq := hq2
        clear hq2
        refine hK.out _ _ (fun _ => hq.s) ?_
        clear hK K
        obtain ⟨g0, g1, gz0, gz1, gl, hxg⟩ := hq.g (b := g) (by simp)
        obtain ⟨k0, k1, kz0, kz1, kl, hxk⟩ := hq.g (b := k) (by simp)
        obtain ⟨x0, x1, x2, x3, x4, x5, x6⟩ := hq.s
        have hxg2 : ¬ g = xb := fun e => hxg e.symm
        have hxk2 : ¬ k = xb := fun e => hxk e.symm
        have hne2 : ¬ k = g := fun e => hne e.symm
        have hF := hid (hq.fin g k (by simp) (by simp) hne)
        clear hq
        refine wpTr_one rfl rfl (fun K hK => ?_)
        go_simp
        refine hK.out _ _ (fun _ => by simp [go_sem, ↓IntWalk.iteOmega, *]) ?_
        clear hK K
        refine wpTr_one rfl rfl (fun K hK => ?_)
        go_simp
        refine hK.out _ _ (fun h => by cases h) ?_
        clear hK K
        refine wpTr_nil ?_
        refine NoPanic.normal ?_
        exact ⟨rfl, g, k, ga, gn, gc, wc, wa, wn, wp, hF.out, by simp only [Act.put, List.setIfInBounds_toArray, List.set_cons_zero, List.set_cons_succ, List.getElem_toArray, List.getElem_cons_zero, List.getElem_cons_succ]⟩
    · intro K hK
      go_simp
      obtain ⟨wz26, hw2⟩ : ∃ y, y = wD.alloc (Obj.cells #[.int .u8 0, .slice none 0 0] 44) := ⟨_, rfl⟩
      rw [← hw2]
      have hq2 := hq.al hw2
      obtain ⟨k, hg⟩ : ∃ y, wD.heap.size = y := ⟨_, rfl⟩
      rw [hg] at hq2 ⊢
      clear hq hw2 hg
      have hq := hq2
      clear hq2
      refine hK.out _ _ hq.s ?_
      clear hK K
      refine wpTr_two rfl rfl rfl rfl ?_ ?_
      · intro K hK
        go_simp
        go_at_call 12
        refine (hq.call HS.out hin hn1 (HN2.out i hin)).mono ?_
        rintro e wz27 ⟨ga, gn, gc, rfl, hq2⟩
        clear hq
        have hq := hq2
        clear hq2
        refine hK.out _ _ hq.s ?_
        clear hK K
        refine wpTr_two rfl rfl rfl rfl ?_ ?_
        · intro K hK
          go_simp
          go_at_call 13
          refine (hq.call HS.out hin (HN2.out i hin) HXX.out HNN.out).mono ?_
          rintro e wz28 ⟨wc, wa, wn, wp, rfl, hq2⟩
          clear hq
          have hq := hq2
          clear hq2
          refine hK.out _ _ hq.s ?_
          clear hK K
          refine wpTr_one rfl rfl (fun K hK => ?_)
          go_simp
          obtain ⟨wz29, hw2⟩ : ∃ y, y = wz28.alloc (Obj.cells #[.int .u8 0, .slice none 0 0] 44) := ⟨_, rfl⟩
          rw [← hw2]
          have hq2 := hq.al hw2
          have hlt := hq.lt (List.mem_singleton.2 rfl)
          obtain ⟨g, hg⟩ : ∃ y, wz28.heap.size = y := ⟨_, rfl⟩
          rw [hg] at hq2 hlt ⊢
          have hne : g ≠ k := by omega
          clear hq hw2 hg hlt
          have hq := hq2
          clear hq2
          refine hK.out _ _ (fun _ => hq.s) ?_
          clear hK K
          obtain ⟨g0, g1, gz0, gz1, gl, hxg⟩ := hq.g (b := g) (by simp)
          obtain ⟨k0, k1, kz0, kz1, kl, hxk⟩ := hq.g (b := k) (by simp)
          obtain ⟨x0, x1, x2, x3, x4, x5, x6⟩ := hq.s
          have hxg2 : ¬ g = xb := fun e => hxg e.symm
          have hxk2 : ¬ k = xb := fun e => hxk e.symm
          have hne2 : ¬ k = g := fun e => hne e.symm
          have hF := hid (hq.fin g k (by simp) (by simp) hne)
          clear hq
          refine wpTr_one rfl rfl (fun K hK => ?_)
          go_simp
          refine hK.out _ _ (fun _ => by simp [go_sem, ↓IntWalk.iteOmega, *]) ?_
          clear hK K
          refine wpTr_one rfl rfl (fun K hK => ?_)
          go_simp
          refine hK.out _ _ (fun h => by cases h) ?_
          clear hK K
          refine wpTr_nil ?_
          refine NoPanic.normal ?_
          exact ⟨rfl, g, k, ga, gn, gc, wc, wa, wn, wp, hF.out, by simp only [Act.put, List.setIfInBounds_toArray, List.set_cons_zero, List.set_cons_succ, List.getElem_toArray, List.getElem_cons_zero, List.getElem_cons_succ]⟩
        · intro K hK
          go_simp
          obtain ⟨wz30, hw2⟩ : ∃ y, y = wz27.alloc (Obj.cells #[.int .u8 0, .slice none 0 0] 44) := ⟨_, rfl⟩
          rw [← hw2]
          have hq2 := hq.al hw2
          have hlt := hq.lt (List.mem_singleton.2 rfl)
          obtain ⟨g, hg⟩ : ∃ y, wz27.heap.size = y := ⟨_, rfl⟩
          rw [hg] at hq2 hlt ⊢
          have hne : g ≠ k := by omega
          clear hq hw2 hg hlt
          have hq := hq2
          clear hq2
          refine hK.out _ _ hq.s ?_
          clear hK K
          refine wpTr_one rfl rfl (fun K hK => ?_)
          go_simp
          go_at_call 13
          refine (hq.call HS.out hin (HN2.out i hin) HXX.out HNN.out).mono ?_
          rintro e wz31 ⟨wc, wa, wn, wp, rfl, hq2⟩
          clear hq
          have hq := hq2
          clear hq2
          refine hK.out _ _ (fun _ => hq.s) ?_
          clear hK K
          obtain ⟨g0, g1, gz0, gz1, gl, hxg⟩ := hq.g (b := g) (by simp)
          obtain ⟨k0, k1, kz0, kz1, kl, hxk⟩ := hq.g (b := k) (by simp)
          obtain ⟨x0, x1, x2, x3, x4, x5, x6⟩ := hq.s
          have hxg2 : ¬ g = xb := fun e => hxg e.symm
          have hxk2 : ¬ k = xb := fun e => hxk e.symm
          have hne2 : ¬ k = g := fun e => hne e.symm
          have hF := hid (hq.fin g k (by simp) (by simp) hne)
          clear hq
          refine wpTr_one rfl rfl (fun K hK => ?_)
          go_simp
          refine hK.out _ _ (fun _ => by simp [go_sem, ↓IntWalk.iteOmega, *]) ?_
          clear hK K
          refine wpTr_one rfl rfl (fun K hK => ?_)
          go_simp
          refine hK.out _ _ (fun h => by cases h) ?_
          clear hK K
          refine wpTr_nil ?_
          refine NoPanic.normal ?_
          exact ⟨rfl, g, k, ga, gn, gc, wc, wa, wn, wp, hF.out, by simp only [Act.put, List.setIfInBounds_toArray, List.set_cons_zero, List.set_cons_succ, List.getElem_toArray, List.getElem_cons_zero, List.getElem_cons_succ]⟩
      · intro K hK
        go_simp
        obtain ⟨wz32, hw2⟩ : ∃ y, y = wz26.alloc (Obj.cells #[.int .u8 0, .slice none 0 0] 44) := ⟨_, rfl⟩
        rw [← hw2]
        have hq2 := hq.al hw2
        have hlt := hq.lt (List.mem_singleton.2 rfl)
        obtain ⟨g, hg⟩ : ∃ y, wz26.heap.size = y := ⟨_, rfl⟩
        rw [hg] at hq2 hlt ⊢
        have hne : g ≠ k := by omega
        clear hq hw2 hg hlt
        have hq := hq2
        clear hq2
        refine hK.out _ _ hq.s ?_
        clear hK K
        refine wpTr_one rfl rfl (fun K hK => ?_)
        go_simp
        go_at_call 12
        refine (hq.call HS.out hin hn1 (HN2.out i hin)).mono ?_
        rintro e wz33 ⟨ga, gn, gc, rfl, hq2⟩
        clear hq
        have hq := hq2
        clear hq2
        refine hK.out _ _ (fun _ => hq.s) ?_
        clear hK K
        refine wpTr_one rfl rfl (fun K hK => ?_)
        go_simp
        go_at_call 13
        refine (hq.call HS.out hin (HN2.out i hin) HXX.out HNN.out).mono ?_
        rintro e wz34 ⟨wc, wa, wn, wp, rfl, hq2⟩
        clear hq
        have hq := hq2
        clear hq2
        refine hK.out _ _ (fun _ => hq.s) ?_
        clear hK K
        obtain ⟨g0, g1, gz0, gz1, gl, hxg⟩ := hq.g (b := g) (by simp)
        obtain ⟨k0, k1, kz0, kz1, kl, hxk⟩ := hq.g (b := k) (by simp)
        obtain ⟨x0, x1, x2, x3, x4, x5, x6⟩ := hq.s
        have hxg2 : ¬ g = xb := fun e => hxg e.symm
        have hxk2 : ¬ k = xb := fun e => hxk e.symm
        have hne2 : ¬ k = g := fun e => hne e.symm
        have hF := hid (hq.fin g k (by simp) (by simp) hne)
        clear hq
        refine wpTr_one rfl rfl (fun K hK => ?_)
        go_simp
        refine hK.out _ _ (fun _ => by simp [go_sem, ↓IntWalk.iteOmega, *]) ?_
        clear hK K
        refine wpTr_one rfl rfl (fun K hK => ?_)
        go_simp
        refine hK.out _ _ (fun h => by cases h) ?_
        clear hK K
        refine wpTr_nil ?_
        refine NoPanic.normal ?_
        exact ⟨rfl, g, k, ga, gn, gc, wc, wa, wn, wp, hF.out, by simp only [Act.put, List.setIfInBounds_toArray, List.set_cons_zero, List.set_cons_succ, List.getElem_toArray, List.getElem_cons_zero, List.getElem_cons_succ]⟩
    --END 1
  · rintro a w2 ⟨g, k, ga, gn, gc, wc, wa, wn, wp, hQF, rfl⟩
    simp only [Act.put, List.setIfInBounds_toArray, List.set_cons_zero, List.set_cons_succ]
    obtain ⟨lab2, labm2, m2, fv2, tv2, Y2, wv, hq3, hI, hJ, hR, bG, bK⟩ := hQF
    have HP2 := hid hq3.play
    have HM2 := hid hq3.pm
    have HIV5 := hid (step_inv D (o i) HINV.out hq3.play.fok)
    have HCL5 := hid (step_cel D (o i) HCEL.out HFK.out)
    have HFX5 := hid (step_fex D (o i) HFEX.out)
    have hlen := step_len D (o i)
    have g0 : w2.cell? ⟨g, 0, none⟩ = some (.int .u8 (D.step (o i)).2.1) := bG.is 0 (by omega)
    have g1 : w2.cell? ⟨g, 1, none⟩ = some (.slice ga gn gc) := bG.is 1 (by omega)
    have gl := bG.lt
    have k0 : w2.cell? ⟨k, 0, none⟩ = some (.int .u8 wc) := bK.is 0 (by omega)
    have k1 : w2.cell? ⟨k, 1, none⟩ = some (.slice wa wn wp) := bK.is 1 (by omega)
    have kl := bK.lt
    have d3 : w2.cell? ⟨d, 3, none⟩ = some (.bool (D.step (o i)).1.ask) := hq3.play.dk.b.is 3 (by omega)
    have hdl2 := hq3.play.dk.b.lt
    have y0 : w2.cell? ⟨xb, 0, none⟩ = some (.int .i64 ((o i).K)) := hq3.ob.is 0 (by omega)
    have hxl := hq3.ob.lt
    have hlo := hq3.lo
    have HI := hid hI
    have HJ := hid hJ
    clear hq3 bG bK hQ x0 x1 x2 x3 x4 x5 x6 hx1 w1 hI hJ
    rcases hR with ⟨hn, hY, hans⟩ | ⟨hq, X, hW, hY, code, arr, hslv, hans⟩
    · --BEGIN 2
      obtain ⟨hc5, hask⟩ := step_plain D (o i) hn
      obtain ⟨D', hD'⟩ : ∃ y, (D.step (o i)).1 = y := ⟨_, rfl⟩
      obtain ⟨gcd, hgcd⟩ : ∃ y, (D.step (o i)).2.1 = y := ⟨_, rfl⟩
      obtain ⟨gvl, hgvl⟩ : ∃ y, (D.step (o i)).2.2 = y := ⟨_, rfl⟩
      have hans2 : wc = gcd ∧ wv = gvl := by
        rw [← hgcd, ← hgvl]
        exact ⟨congrArg Prod.fst hans, congrArg Prod.snd hans⟩
      obtain ⟨rfl, rfl⟩ := hans2
      rw [hD'] at HP2 HIV5 HCL5 HFX5 d3 hask hY
      rw [hgcd] at g0 hc5
      rw [hgvl] at hlen HI
      subst hY
      rw [hask] at d3
      have EQ : Hid (∀ w', Below w2.heap.size w2 w' → Calls Try.prog 15 #[.agg #[.int .u8 wc, .slice ga gn gc], .agg #[.int .u8 wc, .slice wa wn wp]] w' fun e w'' => e = .returned (.bool true) ∧ ∃ z, w'' = w'.ext z) := fun w' h => equal_yes wc wv (.slice ga gn gc) (.slice wa wn wp) lab2 labm2 w' (HI.out.below h) (HJ.out.below h) (by omega)
      have dc5 : ((wc : Int) == 5) = false := by simp; omega
      clear hn hans hD' hgcd hgvl hask hc5 hlen HI HJ
      go_wp2_with (first | (go_at_call 15; refine hold ?_))
      unfold Hid
      refine (EQ.out _ (by (repeat (first | with_reducible exact Below.rf _ | with_reducible exact World.below_ext _ _ | with_reducible refine Below.ex ?_ _ | with_reducible refine Below.al ?_ _ | with_reducible refine Below.setCell ?_ (by simp) _ | with_reducible refine Below.drew ?_)))).mono ?_
      rintro e w3 ⟨rfl, z3, hw3⟩
      have b3 : Below w2.heap.size w2 w3 := by rw [hw3]; exact World.below_ext _ _
      clear hw3 EQ
      have d3' := (World.cell?_of_block (b3.block d hdl2)).trans d3
      have g0' := (World.cell?_of_block (b3.block g gl)).trans g0
      have gl' := Nat.lt_of_lt_of_le gl b3.size
      have hdl3 := Nat.lt_of_lt_of_le hdl2 b3.size
      obtain ⟨labm3, -, -, hM3⟩ := HM2.out.below HP2.out.bl.size b3 (fun _ _ => rfl)
      have HM3 := hid hM3
      have HP3 := hid (HP2.out.below b3)
      clear b3 hM3 d3 g0 g1 k0 k1 y0 hdl2 gl kl hxl HM2 HP2
      go_wp2
      cases hW9 : D'.W with
      | none =>
        have htv : m2.tv = .pointer none := by
          have := HP3.out.dk.wd
          rw [hW9] at this
          exact this.2.1
        have hmv : tv2 = .pointer none := by
          have := HM3.out.md.wd
          rw [hW9] at this
          exact this.2
        have d1 : w3.cell? ⟨d, 1, none⟩ = some (.pointer none) := by
          rw [HP3.out.dk.b.is 1 (by omega)]
          show some m2.tv = _
          rw [htv]
        have q1 : w3.cell? ⟨mb, 1, none⟩ = some (.pointer none) := by
          rw [HM3.out.md.b.is 1 (by omega)]
          show some tv2 = _
          rw [hmv]
        have hd9 := HP3.out.dk.b.lt
        have hm9 := HM3.out.md.b.lt
        clear htv hmv hW9
        first | with_reducible refine wp_region_ext2 (by kernel_rfl) (by kernel_rfl) ?_ | refine wp_region_ext (by kernel_rfl) (by kernel_rfl) ?_
        repeat (go_big_quiet_step (fail))
        refine wpQuiet_nil ?_
        rintro w10 ⟨z, hw2⟩
        have HB10 : Hid (Below w3.heap.size w3 w10) := by unfold Hid; rw [hw2]; exact World.below_ext _ _
        clear hw2
        obtain ⟨labN, -, -, HMN⟩ := Pm.below HM3.out (Play.bl HP3.out).size HB10.out (fun _ _ => rfl)
        have HMN2 := hid HMN
        clear HMN
        go_wp2
        exact ⟨by first | exact Or.inl rfl | exact Or.inr rfl, ⟨lab2, labN, m2, D', fv2, tv2, Play.below HP3.out HB10.out, HIV5.out, HCL5.out, HFX5.out, HMN2.out⟩, pickU rfl⟩
      | some Y9 =>
        have hw := HP3.out.dk.wd
        rw [hW9] at hw
        obtain ⟨fb9, M9, N9, n9, f1, f2, f3, hF9, hT9, hPA9⟩ := hw
        have hw := HM3.out.md.wd
        rw [hW9] at hw
        obtain ⟨fbm, Mm, g1m, g2m, hFm, hTm⟩ := hw
        have d1 : w3.cell? ⟨d, 1, none⟩ = some (.pointer (some ⟨M9.t, 0, none⟩)) := by
          rw [HP3.out.dk.b.is 1 (by omega)]
          show some m2.tv = _
          rw [f2]
        have q1 : w3.cell? ⟨mb, 1, none⟩ = some (.pointer (some ⟨Mm.t, 0, none⟩)) := by
          rw [HM3.out.md.b.is 1 (by omega)]
          show some tv2 = _
          rw [g2m]
        have hd9 := HP3.out.dk.b.lt
        have hm9 := HM3.out.md.b.lt
        have SM : Hid (∀ w', Below w3.heap.size w3 w' → Calls Try.prog 18 #[.pointer (some ⟨M9.t, 0, none⟩), .pointer (some ⟨Mm.t, 0, none⟩)] w' fun e w'' => e = .returned (.bool true) ∧ ∃ z, w'' = w'.ext z) := fun w' h => same_yes M9 Mm Y9.T lab2 labm3 w' (hT9.below h) (hTm.below h)
        clear f1 f2 f3 hF9 hT9 hPA9 g1m g2m hFm hTm hW9
        first | with_reducible refine wp_region_ext2 (by kernel_rfl) (by kernel_rfl) ?_ | refine wp_region_ext (by kernel_rfl) (by kernel_rfl) ?_
        repeat (go_big_quiet_step ((go_at_call 18; with_reducible exact Calls.ext_of (SM.out _ (by (repeat (first | with_reducible exact Below.rf _ | with_reducible exact World.below_ext _ _ | with_reducible refine Below.ex ?_ _ | with_reducible refine Below.al ?_ _ | with_reducible refine Below.setCell ?_ (by simp) _ | with_reducible refine Below.drew ?_)))))))
        refine wpQuiet_nil ?_
        rintro w10 ⟨z, hw2⟩
        have HB10 : Hid (Below w3.heap.size w3 w10) := by unfold Hid; rw [hw2]; exact World.below_ext _ _
        clear hw2
        obtain ⟨labN, -, -, HMN⟩ := Pm.below HM3.out (Play.bl HP3.out).size HB10.out (fun _ _ => rfl)
        have HMN2 := hid HMN
        clear HMN
        go_wp2
        exact ⟨by first | exact Or.inl rfl | exact Or.inr rfl, ⟨lab2, labN, m2, D', fv2, tv2, Play.below HP3.out HB10.out, HIV5.out, HCL5.out, HFX5.out, HMN2.out⟩, pickU rfl⟩
      --END 2
    · have hfok := HFK.out X hW
      have hwb := HWB.out X hW
      have hti := (HINV.out X hW).2
      have htc := HCEL.out X hW
      obtain ⟨T', S', p, hst, hagr, hpt, hkd⟩ := step_rq D (o i) X hW hq hfok hti htc hwb.nr hwb.nc hwb.ms hslv
      rw [← hans] at hagr
      rw [hst] at HP2 HIV5 HCL5 HFX5 d3 g0 hlen HI
      simp only at HP2 HIV5 HCL5 HFX5 d3 g0 hlen HI
      subst hY
      obtain ⟨q, hqq⟩ : ∃ y, rqOf (o i) = y := ⟨_, rfl⟩
      rw [hqq] at hagr hpt hkd
      obtain ⟨D', hD'⟩ : ∃ y, (⟨some ⟨X.F, T', S'⟩, true, rqOf (o i), p⟩ : Dk) = y := ⟨_, rfl⟩
      have hWD : D'.W = some ⟨X.F, T', S'⟩ := by rw [← hD']
      have hqD : D'.q = q := by rw [← hD', ← hqq]
      have hpD : D'.pl = p := by rw [← hD']
      rw [hD'] at HP2 HIV5 HCL5 HFX5
      clear hst hD' hslv hans hq
      rcases hagr.ok with ⟨hpa, hp5⟩ | ⟨hp5, hrc, hw2, hw3, hqm⟩
      · by_cases hp0 : p.c = 0
        · --BEGIN 3
          have hfd := hagr.fd hp0
          have hpA : plAns p = (0, [p.t + p.path.length - 1]) := by unfold plAns; rw [if_neg (by rw [hp0]; simp)]
          have e1 : (plAns p).1 = 0 := by rw [hpA]
          obtain rfl : wc = 0 := by rw [hpa] at e1; exact e1
          rw [hpa] at g0 hlen HI
          simp only at g0 hlen HI
          have hrk := rok_of hfok hfd.rc
          have hval := hfd.isVal hfok hti hwb.nr
          have hlen1 := hfd.len
          have hln2 := hfd.len2 hfok
          have hdn := hfd.dones hfok
          have hvt := hrk.t
          obtain ⟨fbm, Mm, v1, v2, vF, vT, vM, vF2, vL⟩ := HM2.out.see
          have hbb : X.T.base ≤ 1073741824 := vT.bd.base
          have hzz := HM2.out.old
          have hgv := HP2.out.dk.g
          have hpv := HP2.out.dk.pp
          have hdv := HP2.out.dk.pd
          have hdc : ∀ k, k < 15 → w2.cell? ⟨d, k, none⟩ = some (dcell m2 D' k) := HP2.out.dk.b.is
          rw [hqD] at hgv
          rw [hpD] at hpv hdv
          have f4 : w2.cell? ⟨d, 4, none⟩ = some (.int .i64 (q.r)) := by rw [← hqD]; exact hdc 4 (by omega)
          have f5 : w2.cell? ⟨d, 5, none⟩ = some (.int .i64 (q.s)) := by rw [← hqD]; exact hdc 5 (by omega)
          have f6 : w2.cell? ⟨d, 6, none⟩ = some (.int .i64 (q.t)) := by rw [← hqD]; exact hdc 6 (by omega)
          have f7 : w2.cell? ⟨d, 7, none⟩ = some m2.gv := hdc 7 (by omega)
          have f8 : w2.cell? ⟨d, 8, none⟩ = some (.int .i64 (q.h)) := by rw [← hqD]; exact hdc 8 (by omega)
          have f9 : w2.cell? ⟨d, 9, none⟩ = some (.int .i64 (q.m)) := by rw [← hqD]; exact hdc 9 (by omega)
          have f10 : w2.cell? ⟨d, 10, none⟩ = some (.int .u8 0) := by
            have := hdc 10 (by omega)
            have e : dcell m2 D' 10 = .int .u8 p.c := by rw [← hpD]; rfl
            rw [e, hp0] at this
            exact this
          have f11 : w2.cell? ⟨d, 11, none⟩ = some (.int .i64 (q.t)) := by
            have := hdc 11 (by omega)
            have e : dcell m2 D' 11 = .int .i64 (p.t) := by rw [← hpD]; rfl
            rw [e, hpt] at this
            exact this
          have f12 : w2.cell? ⟨d, 12, none⟩ = some m2.pa := hdc 12 (by omega)
          have f13 : w2.cell? ⟨d, 13, none⟩ = some m2.da := hdc 13 (by omega)
          have f14 : w2.cell? ⟨d, 14, none⟩ = some (.int .i64 (p.x)) := by rw [← hpD]; exact hdc 14 (by omega)
          obtain ⟨pav, hpav⟩ : ∃ y, m2.pa = y := ⟨_, rfl⟩
          obtain ⟨dav, hdav⟩ : ∃ y, m2.da = y := ⟨_, rfl⟩
          obtain ⟨gvv, hgvv⟩ : ∃ y, m2.gv = y := ⟨_, rfl⟩
          rw [hpav] at f12 hpv
          rw [hdav] at f13 hdv
          rw [hgvv] at f7 hgv
          obtain ⟨po, pc, hpo, -⟩ := hpv.ex
          obtain ⟨dq, dc, hdq, -⟩ := hdv.ex
          obtain ⟨go, gcc, hgo, -⟩ := hgv.ex
          obtain ⟨pn, hpn⟩ : ∃ y, p.path.length = y := ⟨_, rfl⟩
          obtain ⟨dn, hdnn⟩ : ∃ y, p.done.length = y := ⟨_, rfl⟩
          obtain ⟨gnn, hgnn⟩ : ∃ y, q.gl.length = y := ⟨_, rfl⟩
          rw [hpn] at hpo
          rw [hdnn] at hdq
          rw [hgnn] at hgo
          subst hpo hdq hgo
          have SX : Hid (∀ w', Below w2.heap.size w2 w' → (w').cell? ⟨d, 4, none⟩ = some (.int .i64 (q.r)) ∧ (w').cell? ⟨d, 5, none⟩ = some (.int .i64 (q.s)) ∧ (w').cell? ⟨d, 6, none⟩ = some (.int .i64 (q.t)) ∧ (w').cell? ⟨d, 7, none⟩ = some (.slice go gnn gcc) ∧ (w').cell? ⟨d, 8, none⟩ = some (.int .i64 (q.h)) ∧ (w').cell? ⟨d, 9, none⟩ = some (.int .i64 (q.m)) ∧ (w').cell? ⟨d, 10, none⟩ = some (.int .u8 0) ∧ (w').cell? ⟨d, 11, none⟩ = some (.int .i64 (q.t)) ∧ (w').cell? ⟨d, 12, none⟩ = some (.slice po pn pc) ∧ (w').cell? ⟨d, 13, none⟩ = some (.slice dq dn dc) ∧ (w').cell? ⟨d, 14, none⟩ = some (.int .i64 (p.x)) ∧ (w').cell? ⟨xb, 0, none⟩ = some (.int .i64 ((o i).K))) := fun w' h => by
            have hc : ∀ i, w'.cell? ⟨d, i, none⟩ = w2.cell? ⟨d, i, none⟩ := fun i => World.cell?_of_block (h.block d hdl2)
            exact ⟨(hc _).trans f4, (hc _).trans f5, (hc _).trans f6, (hc _).trans f7, (hc _).trans f8, (hc _).trans f9, (hc _).trans f10, (hc _).trans f11, (hc _).trans f12, (hc _).trans f13, (hc _).trans f14, (World.cell?_of_block (h.block xb hxl)).trans y0⟩
          have hqi : RqI q := by
            have a1 := hrk.r
            have a2 := hrk.s
            have a3 := hrk.h
            have a4 := hrk.m
            have a5 := hfok.nb
            have a6 := hfok.n
            exact ⟨by unfold I64; omega, by unfold I64; omega, by unfold I64; omega, by unfold I64; omega, by unfold I64; omega⟩
          have VA : Hid (∀ w', Below w2.heap.size w2 w' → Calls Try.prog 16 #[.pointer (some ⟨mb, 0, none⟩), .agg #[.int .i64 ((q).r), .int .i64 ((q).s), .int .i64 ((q).t), .slice go gnn gcc, .int .i64 ((q).h), .int .i64 ((q).m)], .agg #[.int .u8 (0), .int .i64 (q.t), .slice po pn pc, .slice dq dn dc, .int .i64 (p.x)]] w' fun e w'' => e = .returned (.bool true) ∧ ∃ z, w'' = w'.ext z) := fun w' h => by
            have := valid_any16 mb fbm Mm X.F X.T (mgl lab2 labm2) q (.slice go gnn gcc) 0 q.t p.x (.slice po pn pc) (.slice dq dn dc) p.path p.done w' (vF.below h) (vT.below h) (vM.below h) ((hgv.relab hzz).below h) hqi.r ((hpv.relab hzz).below h) ((hdv.relab hzz).below h) (by omega) (by omega) hrk.gok (fun y hy => by have := hdn.2 y hy; omega)
            rw [hval] at this
            exact this
          have hro : X.T.rOk q.r = true := by
            have a1 := hrk.r
            have a2 := hwb.nr
            unfold TS.rOk
            simp
            omega
          have AD : Hid ((o i).K = 5 → ∀ w', Below w2.heap.size w2 w' → Calls Try.prog 17 #[.pointer (some ⟨mb, 0, none⟩), .agg #[.int .i64 ((q).r), .int .i64 ((q).s), .int .i64 ((q).t), .slice go gnn gcc, .int .i64 ((q).h), .int .i64 ((q).m)], .agg #[.int .u8 (0), .int .i64 (q.t), .slice po pn pc, .slice dq dn dc, .int .i64 (p.x)]] w' fun e w'' => e = .returned (.bool true) ∧ ((w'').cell? ⟨d, 4, none⟩ = some (.int .i64 (q.r)) ∧ (w'').cell? ⟨d, 5, none⟩ = some (.int .i64 (q.s)) ∧ (w'').cell? ⟨d, 6, none⟩ = some (.int .i64 (q.t)) ∧ (w'').cell? ⟨d, 7, none⟩ = some (.slice go gnn gcc) ∧ (w'').cell? ⟨d, 8, none⟩ = some (.int .i64 (q.h)) ∧ (w'').cell? ⟨d, 9, none⟩ = some (.int .i64 (q.m)) ∧ (w'').cell? ⟨d, 10, none⟩ = some (.int .u8 0) ∧ (w'').cell? ⟨d, 11, none⟩ = some (.int .i64 (q.t)) ∧ (w'').cell? ⟨d, 12, none⟩ = some (.slice po pn pc) ∧ (w'').cell? ⟨d, 13, none⟩ = some (.slice dq dn dc) ∧ (w'').cell? ⟨d, 14, none⟩ = some (.int .i64 (p.x)) ∧ (w'').cell? ⟨xb, 0, none⟩ = some (.int .i64 ((o i).K))) ∧ ∃ lab5 labm5, Play w w'' lab5 d (i + 1) m2 D' ∧ Pm w w'' lab5 labm5 d mb fv2 tv2 (D'.W.map mw)) := fun hK w' h => by
            obtain ⟨labm', -, -, hM'⟩ := HM2.out.below HP2.out.bl.size h (fun _ _ => rfl)
            have hP' := HP2.out.below h
            obtain ⟨fbm, Mm, v1, v2, vF, vT, vM, vF2, vL⟩ := hM'.see
            have hzz := hM'.old
            obtain ⟨e1, e2⟩ : T' = (X.T.enter q.r q.t p.path).2 ∧ (X.T.enter q.r q.t p.path).1 = 0 := by
              rcases hkd with ⟨-, hen⟩ | ⟨h6, -⟩
              · exact hen hp0
              · omega
            refine (adopt_any mb fbm Mm X.T (mgl lab2 labm') q (.slice go gnn gcc) (.slice dq dn dc) 0 q.t p.x (.slice po pn pc) p.path w' vT vM vL hwb.held hro hvt ((hpv.below h).relab hzz) ⟨by omega, by omega⟩ ⟨_, _, _, rfl⟩ ⟨_, _, _, rfl⟩ e2).mono ?_
            rintro e w'' ⟨rfl, hs⟩
            obtain ⟨lab5, labm5, r1, r2⟩ := hM'.adopt hP' v1 v2 vF2 hs
            have hxl' := Nat.lt_of_lt_of_le hxl h.size
            have hdl' := Nat.lt_of_lt_of_le hdl2 h.size
            have s2 := SX.out w' h
            have hdd : ∀ j, w''.cell? ⟨d, j, none⟩ = w'.cell? ⟨d, j, none⟩ := fun j => World.cell?_of_block (hs.k.block d hdl' (by
              have h2 := hM'.s2 d hdl'
              unfold mgl
              by_cases e : labm' d = 2 ∨ labm' d = 3 ∨ labm' d = 4
              · exact absurd rfl (h2 (by omega) (by omega)).2
              · rw [if_neg e, if_pos (by rw [hP'.dk.ld]; omega)]
                unfold tabL
                omega))
            have hxx : ∀ j, w''.cell? ⟨xb, j, none⟩ = w'.cell? ⟨xb, j, none⟩ := fun j => World.cell?_of_block (hs.k.block xb hxl' (by
              have hx := hM'.old xb hxl' (Or.inl hlo)
              unfold tabL
              omega))
            obtain ⟨t4, t5, t6, t7, t8, t9, t10, t11, t12, t13, t14, ty⟩ := s2
            refine ⟨rfl, ⟨(hdd _).trans t4, (hdd _).trans t5, (hdd _).trans t6, (hdd _).trans t7, (hdd _).trans t8, (hdd _).trans t9, (hdd _).trans t10, (hdd _).trans t11, (hdd _).trans t12, (hdd _).trans t13, (hdd _).trans t14, (hxx _).trans ty⟩, lab5, labm5, r1, ?_⟩
            rw [hWD, e1]
            exact r2
          have HKD : Hid ((o i).K = 5 ∨ ((o i).K = 6 ∧ T' = X.T)) := by
            rcases hkd with ⟨h5, -⟩ | h6
            · exact Or.inl h5
            · exact Or.inr h6
          have HWD := hid hWD
          have EQ : Hid (∀ w', Below w2.heap.size w2 w' → Calls Try.prog 15 #[.agg #[.int .u8 (0 : Nat), .slice ga gn gc], .agg #[.int .u8 (0 : Nat), .slice wa wn wp]] w' fun e w'' => e = .returned (.bool true) ∧ ∃ z, w'' = w'.ext z) := fun w' h => equal_yes 0 wv (.slice ga gn gc) (.slice wa wn wp) lab2 labm2 w' (HI.out.below h) (HJ.out.below h) (by omega)
          clear hagr hpa hkd hpA hWD hqD hpD hpt hp5 hp0 hlen HI HJ hfok hwb hti htc hqq hfd e1 hrk hval hlen1 hln2 hdn hvt v1 v2 vF vT vM vF2 vL hbb hzz hgv hpv hdv hdc f4 f5 f6 f7 f8 f9 f10 f11 f12 f13 f14 hpav hdav hgvv hpn hdnn hgnn hqi hro hlo
          go_wp2_with (first | (go_at_call 15; refine hold ?_))
          unfold Hid
          refine (EQ.out _ (by (repeat (first | with_reducible exact Below.rf _ | with_reducible exact World.below_ext _ _ | with_reducible refine Below.ex ?_ _ | with_reducible refine Below.al ?_ _ | with_reducible refine Below.setCell ?_ (by simp) _ | with_reducible refine Below.drew ?_)))).mono ?_
          rintro e w3 ⟨rfl, z3, hw3⟩
          have b3 : Below w2.heap.size w2 w3 := by rw [hw3]; exact World.below_ext _ _
          clear hw3 EQ
          have d3' := (World.cell?_of_block (b3.block d hdl2)).trans d3
          have g0' := (World.cell?_of_block (b3.block g gl)).trans g0
          have gl' := Nat.lt_of_lt_of_le gl b3.size
          have hdl3 := Nat.lt_of_lt_of_le hdl2 b3.size
          have VA3 : Hid (∀ w', Below w3.heap.size w3 w' → Calls Try.prog 16 #[.pointer (some ⟨mb, 0, none⟩), .agg #[.int .i64 ((q).r), .int .i64 ((q).s), .int .i64 ((q).t), .slice go gnn gcc, .int .i64 ((q).h), .int .i64 ((q).m)], .agg #[.int .u8 (0), .int .i64 (q.t), .slice po pn pc, .slice dq dn dc, .int .i64 (p.x)]] w' fun e w'' => e = .returned (.bool true) ∧ ∃ z, w'' = w'.ext z) := fun w' h => VA.out w' (b3.trans (h.mono b3.size))
          have HB3 := hid b3
          obtain ⟨t4, t5, t6, t7, t8, t9, t10, t11, t12, t13, t14, ty⟩ := SX.out w3 b3
          clear b3 d3 g0 g1 k0 k1 y0 kl VA
          go_wp2
          first | with_reducible refine wp_region_ext2 (by kernel_rfl) (by kernel_rfl) ?_ | refine wp_region_ext (by kernel_rfl) (by kernel_rfl) ?_
          repeat (go_big_quiet_step ((go_at_call 16; with_reducible exact Calls.ext_of (VA3.out _ (by (repeat (first | with_reducible exact Below.rf _ | with_reducible exact World.below_ext _ _ | with_reducible refine Below.ex ?_ _ | with_reducible refine Below.al ?_ _ | with_reducible refine Below.setCell ?_ (by simp) _ | with_reducible refine Below.drew ?_)))))))
          refine wpQuiet_nil ?_
          rintro w4 ⟨z, hw2⟩
          have b24 : Below w2.heap.size w2 w4 := HB3.out.trans (Below.mono (by rw [hw2]; exact World.below_ext _ _) HB3.out.size)
          clear hw2 VA3 t4 t5 t6 t7 t8 t9 t10 t11 t12 t13 t14 ty d3' g0' gl' hdl3
          obtain ⟨t4, t5, t6, t7, t8, t9, t10, t11, t12, t13, t14, ty⟩ := SX.out w4 b24
          have hdl4 := Nat.lt_of_lt_of_le hdl2 b24.size
          have hxl4 := Nat.lt_of_lt_of_le hxl b24.size
          have HB24 := hid b24
          clear b24
          rcases HKD.out with hK | ⟨hK, hTT⟩
          · --BEGIN 6
            have AD4 : Hid (∀ w', Below w4.heap.size w4 w' → Calls Try.prog 17 #[.pointer (some ⟨mb, 0, none⟩), .agg #[.int .i64 ((q).r), .int .i64 ((q).s), .int .i64 ((q).t), .slice go gnn gcc, .int .i64 ((q).h), .int .i64 ((q).m)], .agg #[.int .u8 (0), .int .i64 (q.t), .slice po pn pc, .slice dq dn dc, .int .i64 (p.x)]] w' fun e w'' => e = .returned (.bool true) ∧ ((w'').cell? ⟨d, 4, none⟩ = some (.int .i64 (q.r)) ∧ (w'').cell? ⟨d, 5, none⟩ = some (.int .i64 (q.s)) ∧ (w'').cell? ⟨d, 6, none⟩ = some (.int .i64 (q.t)) ∧ (w'').cell? ⟨d, 7, none⟩ = some (.slice go gnn gcc) ∧ (w'').cell? ⟨d, 8, none⟩ = some (.int .i64 (q.h)) ∧ (w'').cell? ⟨d, 9, none⟩ = some (.int .i64 (q.m)) ∧ (w'').cell? ⟨d, 10, none⟩ = some (.int .u8 0) ∧ (w'').cell? ⟨d, 11, none⟩ = some (.int .i64 (q.t)) ∧ (w'').cell? ⟨d, 12, none⟩ = some (.slice po pn pc) ∧ (w'').cell? ⟨d, 13, none⟩ = some (.slice dq dn dc) ∧ (w'').cell? ⟨d, 14, none⟩ = some (.int .i64 (p.x)) ∧ (w'').cell? ⟨xb, 0, none⟩ = some (.int .i64 ((o i).K))) ∧ ∃ lab5 labm5, Play w w'' lab5 d (i + 1) m2 D' ∧ Pm w w'' lab5 labm5 d mb fv2 tv2 (D'.W.map mw)) := fun w' h => AD.out hK w' (HB24.out.trans (h.mono HB24.out.size))
            have dk5 : ((o i).K == 5) = true := by simp [hK]
            clear AD HKD SX HM2 HP2 HB24 HB3 hK
            go_wp2
            go_region_held3 (fun w' => (w').cell? ⟨d, 4, none⟩ = some (.int .i64 (q.r)) ∧ (w').cell? ⟨d, 5, none⟩ = some (.int .i64 (q.s)) ∧ (w').cell? ⟨d, 6, none⟩ = some (.int .i64 (q.t)) ∧ (w').cell? ⟨d, 7, none⟩ = some (.slice go gnn gcc) ∧ (w').cell? ⟨d, 8, none⟩ = some (.int .i64 (q.h)) ∧ (w').cell? ⟨d, 9, none⟩ = some (.int .i64 (q.m)) ∧ (w').cell? ⟨d, 10, none⟩ = some (.int .u8 0) ∧ (w').cell? ⟨d, 11, none⟩ = some (.int .i64 (q.t)) ∧ (w').cell? ⟨d, 12, none⟩ = some (.slice po pn pc) ∧ (w').cell? ⟨d, 13, none⟩ = some (.slice dq dn dc) ∧ (w').cell? ⟨d, 14, none⟩ = some (.int .i64 (p.x)) ∧ (w').cell? ⟨xb, 0, none⟩ = some (.int .i64 ((o i).K))) (first | with_reducible assumption | simp [go_sem, ↓IntWalk.iteOmega, *]) ((go_at_call 17; refine (AD4.out _ (by (repeat (first | with_reducible exact Below.rf _ | with_reducible exact World.below_ext _ _ | with_reducible refine Below.ex ?_ _ | with_reducible refine Below.al ?_ _ | with_reducible refine Below.setCell ?_ (by simp) _ | with_reducible refine Below.drew ?_)))).mono ?_; rintro e w5 ⟨rfl, s5, lab5, labm5, hP5, hM5⟩))
            have HP5 := hid hP5
            have HM5 := hid hM5
            clear s5 hP5 hM5 t4 t5 t6 t7 t8 t9 t10 t11 t12 t13 t14 ty AD4 hdl4 hxl4 hdl2 hxl gl
            go_wp2
            cases hW9 : D'.W with
            | none =>
              have htv : m2.tv = .pointer none := by
                have := HP5.out.dk.wd
                rw [hW9] at this
                exact this.2.1
              have hmv : tv2 = .pointer none := by
                have := HM5.out.md.wd
                rw [hW9] at this
                exact this.2
              have d1 : w5.cell? ⟨d, 1, none⟩ = some (.pointer none) := by
                rw [HP5.out.dk.b.is 1 (by omega)]
                show some m2.tv = _
                rw [htv]
              have q1 : w5.cell? ⟨mb, 1, none⟩ = some (.pointer none) := by
                rw [HM5.out.md.b.is 1 (by omega)]
                show some tv2 = _
                rw [hmv]
              have hd9 := HP5.out.dk.b.lt
              have hm9 := HM5.out.md.b.lt
              clear htv hmv hW9
              first | with_reducible refine wp_region_ext2 (by kernel_rfl) (by kernel_rfl) ?_ | refine wp_region_ext (by kernel_rfl) (by kernel_rfl) ?_
              repeat (go_big_quiet_step (fail))
              refine wpQuiet_nil ?_
              rintro w10 ⟨z, hw2⟩
              have HB10 : Hid (Below w5.heap.size w5 w10) := by unfold Hid; rw [hw2]; exact World.below_ext _ _
              clear hw2
              obtain ⟨labN, -, -, HMN⟩ := Pm.below HM5.out (Play.bl HP5.out).size HB10.out (fun _ _ => rfl)
              have HMN2 := hid HMN
              clear HMN
              go_wp2
              exact ⟨by first | exact Or.inl rfl | exact Or.inr rfl, ⟨lab5, labN, m2, D', fv2, tv2, Play.below HP5.out HB10.out, HIV5.out, HCL5.out, HFX5.out, HMN2.out⟩, pickU rfl⟩
            | some Y9 =>
              have hw := HP5.out.dk.wd
              rw [hW9] at hw
              obtain ⟨fb9, M9, N9, n9, f1, f2, f3, hF9, hT9, hPA9⟩ := hw
              have hw := HM5.out.md.wd
              rw [hW9] at hw
              obtain ⟨fbm, Mm, g1m, g2m, hFm, hTm⟩ := hw
              have d1 : w5.cell? ⟨d, 1, none⟩ = some (.pointer (some ⟨M9.t, 0, none⟩)) := by
                rw [HP5.out.dk.b.is 1 (by omega)]
                show some m2.tv = _
                rw [f2]
              have q1 : w5.cell? ⟨mb, 1, none⟩ = some (.pointer (some ⟨Mm.t, 0, none⟩)) := by
                rw [HM5.out.md.b.is 1 (by omega)]
                show some tv2 = _
                rw [g2m]
              have hd9 := HP5.out.dk.b.lt
              have hm9 := HM5.out.md.b.lt
              have SM : Hid (∀ w', Below w5.heap.size w5 w' → Calls Try.prog 18 #[.pointer (some ⟨M9.t, 0, none⟩), .pointer (some ⟨Mm.t, 0, none⟩)] w' fun e w'' => e = .returned (.bool true) ∧ ∃ z, w'' = w'.ext z) := fun w' h => same_yes M9 Mm Y9.T lab5 labm5 w' (hT9.below h) (hTm.below h)
              clear f1 f2 f3 hF9 hT9 hPA9 g1m g2m hFm hTm hW9
              first | with_reducible refine wp_region_ext2 (by kernel_rfl) (by kernel_rfl) ?_ | refine wp_region_ext (by kernel_rfl) (by kernel_rfl) ?_
              repeat (go_big_quiet_step ((go_at_call 18; with_reducible exact Calls.ext_of (SM.out _ (by (repeat (first | with_reducible exact Below.rf _ | with_reducible exact World.below_ext _ _ | with_reducible refine Below.ex ?_ _ | with_reducible refine Below.al ?_ _ | with_reducible refine Below.setCell ?_ (by simp) _ | with_reducible refine Below.drew ?_)))))))
              refine wpQuiet_nil ?_
              rintro w10 ⟨z, hw2⟩
              have HB10 : Hid (Below w5.heap.size w5 w10) := by unfold Hid; rw [hw2]; exact World.below_ext _ _
              clear hw2
              obtain ⟨labN, -, -, HMN⟩ := Pm.below HM5.out (Play.bl HP5.out).size HB10.out (fun _ _ => rfl)
              have HMN2 := hid HMN
              clear HMN
              go_wp2
              exact ⟨by first | exact Or.inl rfl | exact Or.inr rfl, ⟨lab5, labN, m2, D', fv2, tv2, Play.below HP5.out HB10.out, HIV5.out, HCL5.out, HFX5.out, HMN2.out⟩, pickU rfl⟩
            --END 6
          · --BEGIN 7
            obtain ⟨labm4, -, -, hM4⟩ := HM2.out.below HP2.out.bl.size HB24.out (fun _ _ => rfl)
            have HM4 : Hid (Pm w w4 lab2 labm4 d mb fv2 tv2 (D'.W.map mw)) := by
              unfold Hid
              rw [HWD.out, hTT]
              exact hM4
            have HP4 := hid (HP2.out.below HB24.out)
            have dk5 : ((o i).K == 5) = false := by simp [hK]
            clear AD HKD SX HM2 HP2 HB24 HB3 hM4 hTT hK
            go_wp2
            first | with_reducible refine wp_region_ext2 (by kernel_rfl) (by kernel_rfl) ?_ | refine wp_region_ext (by kernel_rfl) (by kernel_rfl) ?_
            repeat (go_big_quiet_step (fail))
            refine wpQuiet_nil ?_
            rintro w5 ⟨z, hw2⟩
            have b5 : Below w4.heap.size w4 w5 := by rw [hw2]; exact World.below_ext _ _
            clear hw2
            obtain ⟨labm5, -, -, hM5⟩ := HM4.out.below HP4.out.bl.size b5 (fun _ _ => rfl)
            have HM5 := hid hM5
            have HP5 := hid (HP4.out.below b5)
            clear b5 hM5 HM4 HP4 t4 t5 t6 t7 t8 t9 t10 t11 t12 t13 t14 ty hdl4 hxl4 hdl2 hxl gl
            go_wp2
            cases hW9 : D'.W with
            | none =>
              have htv : m2.tv = .pointer none := by
                have := HP5.out.dk.wd
                rw [hW9] at this
                exact this.2.1
              have hmv : tv2 = .pointer none := by
                have := HM5.out.md.wd
                rw [hW9] at this
                exact this.2
              have d1 : w5.cell? ⟨d, 1, none⟩ = some (.pointer none) := by
                rw [HP5.out.dk.b.is 1 (by omega)]
                show some m2.tv = _
                rw [htv]
              have q1 : w5.cell? ⟨mb, 1, none⟩ = some (.pointer none) := by
                rw [HM5.out.md.b.is 1 (by omega)]
                show some tv2 = _
                rw [hmv]
              have hd9 := HP5.out.dk.b.lt
              have hm9 := HM5.out.md.b.lt
              clear htv hmv hW9
              first | with_reducible refine wp_region_ext2 (by kernel_rfl) (by kernel_rfl) ?_ | refine wp_region_ext (by kernel_rfl) (by kernel_rfl) ?_
              repeat (go_big_quiet_step (fail))
              refine wpQuiet_nil ?_
              rintro w10 ⟨z, hw2⟩
              have HB10 : Hid (Below w5.heap.size w5 w10) := by unfold Hid; rw [hw2]; exact World.below_ext _ _
              clear hw2
              obtain ⟨labN, -, -, HMN⟩ := Pm.below HM5.out (Play.bl HP5.out).size HB10.out (fun _ _ => rfl)
              have HMN2 := hid HMN
              clear HMN
              go_wp2
              exact ⟨by first | exact Or.inl rfl | exact Or.inr rfl, ⟨lab2, labN, m2, D', fv2, tv2, Play.below HP5.out HB10.out, HIV5.out, HCL5.out, HFX5.out, HMN2.out⟩, pickU rfl⟩
            | some Y9 =>
              have hw := HP5.out.dk.wd
              rw [hW9] at hw
              obtain ⟨fb9, M9, N9, n9, f1, f2, f3, hF9, hT9, hPA9⟩ := hw
              have hw := HM5.out.md.wd
              rw [hW9] at hw
              obtain ⟨fbm, Mm, g1m, g2m, hFm, hTm⟩ := hw
              have d1 : w5.cell? ⟨d, 1, none⟩ = some (.pointer (some ⟨M9.t, 0, none⟩)) := by
                rw [HP5.out.dk.b.is 1 (by omega)]
                show some m2.tv = _
                rw [f2]
              have q1 : w5.cell? ⟨mb, 1, none⟩ = some (.pointer (some ⟨Mm.t, 0, none⟩)) := by
                rw [HM5.out.md.b.is 1 (by omega)]
                show some tv2 = _
                rw [g2m]
              have hd9 := HP5.out.dk.b.lt
              have hm9 := HM5.out.md.b.lt
              have SM : Hid (∀ w', Below w5.heap.size w5 w' → Calls Try.prog 18 #[.pointer (some ⟨M9.t, 0, none⟩), .pointer (some ⟨Mm.t, 0, none⟩)] w' fun e w'' => e = .returned (.bool true) ∧ ∃ z, w'' = w'.ext z) := fun w' h => same_yes M9 Mm Y9.T lab2 labm5 w' (hT9.below h) (hTm.below h)
              clear f1 f2 f3 hF9 hT9 hPA9 g1m g2m hFm hTm hW9
              first | with_reducible refine wp_region_ext2 (by kernel_rfl) (by kernel_rfl) ?_ | refine wp_region_ext (by kernel_rfl) (by kernel_rfl) ?_
              repeat (go_big_quiet_step ((go_at_call 18; with_reducible exact Calls.ext_of (SM.out _ (by (repeat (first | with_reducible exact Below.rf _ | with_reducible exact World.below_ext _ _ | with_reducible refine Below.ex ?_ _ | with_reducible refine Below.al ?_ _ | with_reducible refine Below.setCell ?_ (by simp) _ | with_reducible refine Below.drew ?_)))))))
              refine wpQuiet_nil ?_
              rintro w10 ⟨z, hw2⟩
              have HB10 : Hid (Below w5.heap.size w5 w10) := by unfold Hid; rw [hw2]; exact World.below_ext _ _
              clear hw2
              obtain ⟨labN, -, -, HMN⟩ := Pm.below HM5.out (Play.bl HP5.out).size HB10.out (fun _ _ => rfl)
              have HMN2 := hid HMN
              clear HMN
              go_wp2
              exact ⟨by first | exact Or.inl rfl | exact Or.inr rfl, ⟨lab2, labN, m2, D', fv2, tv2, Play.below HP5.out HB10.out, HIV5.out, HCL5.out, HFX5.out, HMN2.out⟩, pickU rfl⟩
            --END 7
          --END 3
        · --BEGIN 4
          have hpA : plAns p = (p.c, []) := by unfold plAns; rw [if_pos hp0]
          have hT' := hagr.no hp0
          subst hT'
          rw [hpa] at g0 hlen HI
          simp only at g0 hlen HI
          have hwc : wc = p.c := by
            rw [hpA] at hpa
            exact (congrArg Prod.fst hpa).symm
          have HM2' : Hid (Pm w w2 lab2 labm2 d mb fv2 tv2 (D'.W.map mw)) := by
            unfold Hid
            rw [hWD]
            exact HM2.out
          clear HM2
          have HM2 := HM2'
          clear HM2'
          have EQ : Hid (∀ w', Below w2.heap.size w2 w' → Calls Try.prog 15 #[.agg #[.int .u8 wc, .slice ga gn gc], .agg #[.int .u8 wc, .slice wa wn wp]] w' fun e w'' => e = .returned (.bool true) ∧ ∃ z, w'' = w'.ext z) := fun w' h => equal_yes wc wv (.slice ga gn gc) (.slice wa wn wp) lab2 labm2 w' (HI.out.below h) (HJ.out.below h) (by omega)
          have dc5 : ((wc : Int) == 5) = false := by simp; omega
          have dc0 : ((wc : Int) == 0) = false := by simp; omega
          clear hagr hpa hkd hpA hWD hqD hpD hpt hp5 hp0 hwc hlen HI HJ hfok hwb hti htc hqq
          go_wp2_with (first | (go_at_call 15; refine hold ?_))
          unfold Hid
          refine (EQ.out _ (by (repeat (first | with_reducible exact Below.rf _ | with_reducible exact World.below_ext _ _ | with_reducible refine Below.ex ?_ _ | with_reducible refine Below.al ?_ _ | with_reducible refine Below.setCell ?_ (by simp) _ | with_reducible refine Below.drew ?_)))).mono ?_
          rintro e w3 ⟨rfl, z3, hw3⟩
          have b3 : Below w2.heap.size w2 w3 := by rw [hw3]; exact World.below_ext _ _
          clear hw3 EQ
          have d3' := (World.cell?_of_block (b3.block d hdl2)).trans d3
          have g0' := (World.cell?_of_block (b3.block g gl)).trans g0
          have gl' := Nat.lt_of_lt_of_le gl b3.size
          have hdl3 := Nat.lt_of_lt_of_le hdl2 b3.size
          obtain ⟨labm3, -, -, hM3⟩ := HM2.out.below HP2.out.bl.size b3 (fun _ _ => rfl)
          have HM3 := hid hM3
          have HP3 := hid (HP2.out.below b3)
          clear b3 hM3 d3 g0 g1 k0 k1 y0 hdl2 gl kl hxl HM2 HP2
          go_wp2
          cases hW9 : D'.W with
          | none =>
            have htv : m2.tv = .pointer none := by
              have := HP3.out.dk.wd
              rw [hW9] at this
              exact this.2.1
            have hmv : tv2 = .pointer none := by
              have := HM3.out.md.wd
              rw [hW9] at this
              exact this.2
            have d1 : w3.cell? ⟨d, 1, none⟩ = some (.pointer none) := by
              rw [HP3.out.dk.b.is 1 (by omega)]
              show some m2.tv = _
              rw [htv]
            have q1 : w3.cell? ⟨mb, 1, none⟩ = some (.pointer none) := by
              rw [HM3.out.md.b.is 1 (by omega)]
              show some tv2 = _
              rw [hmv]
            have hd9 := HP3.out.dk.b.lt
            have hm9 := HM3.out.md.b.lt
            clear htv hmv hW9
            first | with_reducible refine wp_region_ext2 (by kernel_rfl) (by kernel_rfl) ?_ | refine wp_region_ext (by kernel_rfl) (by kernel_rfl) ?_
            repeat (go_big_quiet_step (fail))
            refine wpQuiet_nil ?_
            rintro w10 ⟨z, hw2⟩
            have HB10 : Hid (Below w3.heap.size w3 w10) := by unfold Hid; rw [hw2]; exact World.below_ext _ _
            clear hw2
            obtain ⟨labN, -, -, HMN⟩ := Pm.below HM3.out (Play.bl HP3.out).size HB10.out (fun _ _ => rfl)
            have HMN2 := hid HMN
            clear HMN
            go_wp2
            exact ⟨by first | exact Or.inl rfl | exact Or.inr rfl, ⟨lab2, labN, m2, D', fv2, tv2, Play.below HP3.out HB10.out, HIV5.out, HCL5.out, HFX5.out, HMN2.out⟩, pickU rfl⟩
          | some Y9 =>
            have hw := HP3.out.dk.wd
            rw [hW9] at hw
            obtain ⟨fb9, M9, N9, n9, f1, f2, f3, hF9, hT9, hPA9⟩ := hw
            have hw := HM3.out.md.wd
            rw [hW9] at hw
            obtain ⟨fbm, Mm, g1m, g2m, hFm, hTm⟩ := hw
            have d1 : w3.cell? ⟨d, 1, none⟩ = some (.pointer (some ⟨M9.t, 0, none⟩)) := by
              rw [HP3.out.dk.b.is 1 (by omega)]
              show some m2.tv = _
              rw [f2]
            have q1 : w3.cell? ⟨mb, 1, none⟩ = some (.pointer (some ⟨Mm.t, 0, none⟩)) := by
              rw [HM3.out.md.b.is 1 (by omega)]
              show some tv2 = _
              rw [g2m]
            have hd9 := HP3.out.dk.b.lt
            have hm9 := HM3.out.md.b.lt
            have SM : Hid (∀ w', Below w3.heap.size w3 w' → Calls Try.prog 18 #[.pointer (some ⟨M9.t, 0, none⟩), .pointer (some ⟨Mm.t, 0, none⟩)] w' fun e w'' => e = .returned (.bool true) ∧ ∃ z, w'' = w'.ext z) := fun w' h => same_yes M9 Mm Y9.T lab2 labm3 w' (hT9.below h) (hTm.below h)
            clear f1 f2 f3 hF9 hT9 hPA9 g1m g2m hFm hTm hW9
            first | with_reducible refine wp_region_ext2 (by kernel_rfl) (by kernel_rfl) ?_ | refine wp_region_ext (by kernel_rfl) (by kernel_rfl) ?_
            repeat (go_big_quiet_step ((go_at_call 18; with_reducible exact Calls.ext_of (SM.out _ (by (repeat (first | with_reducible exact Below.rf _ | with_reducible exact World.below_ext _ _ | with_reducible refine Below.ex ?_ _ | with_reducible refine Below.al ?_ _ | with_reducible refine Below.setCell ?_ (by simp) _ | with_reducible refine Below.drew ?_)))))))
            refine wpQuiet_nil ?_
            rintro w10 ⟨z, hw2⟩
            have HB10 : Hid (Below w3.heap.size w3 w10) := by unfold Hid; rw [hw2]; exact World.below_ext _ _
            clear hw2
            obtain ⟨labN, -, -, HMN⟩ := Pm.below HM3.out (Play.bl HP3.out).size HB10.out (fun _ _ => rfl)
            have HMN2 := hid HMN
            clear HMN
            go_wp2
            exact ⟨by first | exact Or.inl rfl | exact Or.inr rfl, ⟨lab2, labN, m2, D', fv2, tv2, Play.below HP3.out HB10.out, HIV5.out, HCL5.out, HFX5.out, HMN2.out⟩, pickU rfl⟩
          --END 4
      · --BEGIN 5
        have hpA : plAns p = (5, []) := by unfold plAns; rw [if_pos (by rw [hp5]; simp), hp5]
        rw [hpA] at g0
        simp only at g0
        have hT' := hagr.no (by rw [hp5]; simp)
        subst hT'
        have hrk := rok_of hfok hrc
        have hw := HP2.out.dk.wd
        rw [hWD] at hw
        obtain ⟨fb, M, N, n5, f1, f2, f3, hF, hT, hPA⟩ := hw
        have hgv := HP2.out.dk.g
        rw [hqD] at hgv
        obtain ⟨gvv, hgvv⟩ : ∃ y, m2.gv = y := ⟨_, rfl⟩
        have hdc : ∀ k, k < 15 → w2.cell? ⟨d, k, none⟩ = some (dcell m2 D' k) := HP2.out.dk.b.is
        have f4 : w2.cell? ⟨d, 4, none⟩ = some (.int .i64 (q.r)) := by rw [← hqD]; exact hdc 4 (by omega)
        have f5 : w2.cell? ⟨d, 5, none⟩ = some (.int .i64 (q.s)) := by rw [← hqD]; exact hdc 5 (by omega)
        have f6 : w2.cell? ⟨d, 6, none⟩ = some (.int .i64 (q.t)) := by rw [← hqD]; exact hdc 6 (by omega)
        have f7 : w2.cell? ⟨d, 7, none⟩ = some gvv := by rw [← hgvv]; exact hdc 7 (by omega)
        have f8 : w2.cell? ⟨d, 8, none⟩ = some (.int .i64 (q.h)) := by rw [← hqD]; exact hdc 8 (by omega)
        have f9 : w2.cell? ⟨d, 9, none⟩ = some (.int .i64 (q.m)) := by rw [← hqD]; exact hdc 9 (by omega)
        have p2 : w2.cell? ⟨d, 2, none⟩ = some (.pointer (some ⟨N.p, 0, none⟩)) := by
          rw [hdc 2 (by omega)]
          show some m2.pv = _
          rw [f3]
        rw [hgvv] at hgv
        obtain ⟨sts, hsts⟩ : ∃ y, q.states X.F X.T = y := ⟨_, rfl⟩
        have ST : Hid (∀ w', Below w2.heap.size w2 w' → Calls Try.prog 14 #[.pointer (some ⟨N.p, 0, none⟩), .agg #[.int .i64 ((q).r), .int .i64 ((q).s), .int .i64 ((q).t), gvv, .int .i64 ((q).h), .int .i64 ((q).m)]] w' fun e w'' => e = .returned (.int .i64 (sts)) ∧ ∃ z, w'' = w'.ext z) := fun w' h => by
          rw [← hsts]
          exact states_any M X.T N S' n5 fb X.F lab2 q gvv w' (hF.below h) (hT.below h) (hPA.below h) (hgv.below h) hrc
        have HM2' : Hid (Pm w w2 lab2 labm2 d mb fv2 tv2 (D'.W.map mw)) := by
          unfold Hid
          rw [hWD]
          exact HM2.out
        clear HM2
        have HM2 := HM2'
        clear HM2'
        rw [hsts] at hqm
        have dw2 : ((wc : Int) != 2) = true := by simp; omega
        have dw3 : ((wc : Int) != 3) = true := by simp; omega
        have dst : decide (sts ≤ q.m) = false := by simp; omega
        clear hagr hkd hpA hWD hqD hpD hpt hp5 hrc hw2 hw3 hqm hfok hwb hti htc hqq hrk f1 f2 f3 hF hT hPA hgv hgvv hdc hsts hlen HI HJ
        go_wp2
        first | with_reducible refine wp_region_ext2 (by kernel_rfl) (by kernel_rfl) ?_ | refine wp_region_ext (by kernel_rfl) (by kernel_rfl) ?_
        repeat (go_big_quiet_step ((go_at_call 14; with_reducible exact Calls.ext_of (ST.out _ (by (repeat (first | with_reducible exact Below.rf _ | with_reducible exact World.below_ext _ _ | with_reducible refine Below.ex ?_ _ | with_reducible refine Below.al ?_ _ | with_reducible refine Below.setCell ?_ (by simp) _ | with_reducible refine Below.drew ?_)))))))
        refine wpQuiet_nil ?_
        rintro w3 ⟨z, hw2⟩
        have b3 : Below w2.heap.size w2 w3 := by rw [hw2]; exact World.below_ext _ _
        clear hw2 ST f4 f5 f6 f7 f8 f9 p2
        have d3' := (World.cell?_of_block (b3.block d hdl2)).trans d3
        have g0' := (World.cell?_of_block (b3.block g gl)).trans g0
        have gl' := Nat.lt_of_lt_of_le gl b3.size
        have hdl3 := Nat.lt_of_lt_of_le hdl2 b3.size
        obtain ⟨labm3, -, -, hM3⟩ := HM2.out.below HP2.out.bl.size b3 (fun _ _ => rfl)
        have HM3 := hid hM3
        have HP3 := hid (HP2.out.below b3)
        clear b3 hM3 d3 g0 g1 k0 k1 y0 hdl2 gl kl hxl HM2 HP2
        go_wp2
        cases hW9 : D'.W with
        | none =>
          have htv : m2.tv = .pointer none := by
            have := HP3.out.dk.wd
            rw [hW9] at this
            exact this.2.1
          have hmv : tv2 = .pointer none := by
            have := HM3.out.md.wd
            rw [hW9] at this
            exact this.2
          have d1 : w3.cell? ⟨d, 1, none⟩ = some (.pointer none) := by
            rw [HP3.out.dk.b.is 1 (by omega)]
            show some m2.tv = _
            rw [htv]
          have q1 : w3.cell? ⟨mb, 1, none⟩ = some (.pointer none) := by
            rw [HM3.out.md.b.is 1 (by omega)]
            show some tv2 = _
            rw [hmv]
          have hd9 := HP3.out.dk.b.lt
          have hm9 := HM3.out.md.b.lt
          clear htv hmv hW9
          first | with_reducible refine wp_region_ext2 (by kernel_rfl) (by kernel_rfl) ?_ | refine wp_region_ext (by kernel_rfl) (by kernel_rfl) ?_
          repeat (go_big_quiet_step (fail))
          refine wpQuiet_nil ?_
          rintro w10 ⟨z, hw2⟩
          have HB10 : Hid (Below w3.heap.size w3 w10) := by unfold Hid; rw [hw2]; exact World.below_ext _ _
          clear hw2
          obtain ⟨labN, -, -, HMN⟩ := Pm.below HM3.out (Play.bl HP3.out).size HB10.out (fun _ _ => rfl)
          have HMN2 := hid HMN
          clear HMN
          go_wp2
          exact ⟨by first | exact Or.inl rfl | exact Or.inr rfl, ⟨lab2, labN, m2, D', fv2, tv2, Play.below HP3.out HB10.out, HIV5.out, HCL5.out, HFX5.out, HMN2.out⟩, pickU rfl⟩
        | some Y9 =>
          have hw := HP3.out.dk.wd
          rw [hW9] at hw
          obtain ⟨fb9, M9, N9, n9, f1, f2, f3, hF9, hT9, hPA9⟩ := hw
          have hw := HM3.out.md.wd
          rw [hW9] at hw
          obtain ⟨fbm, Mm, g1m, g2m, hFm, hTm⟩ := hw
          have d1 : w3.cell? ⟨d, 1, none⟩ = some (.pointer (some ⟨M9.t, 0, none⟩)) := by
            rw [HP3.out.dk.b.is 1 (by omega)]
            show some m2.tv = _
            rw [f2]
          have q1 : w3.cell? ⟨mb, 1, none⟩ = some (.pointer (some ⟨Mm.t, 0, none⟩)) := by
            rw [HM3.out.md.b.is 1 (by omega)]
            show some tv2 = _
            rw [g2m]
          have hd9 := HP3.out.dk.b.lt
          have hm9 := HM3.out.md.b.lt
          have SM : Hid (∀ w', Below w3.heap.size w3 w' → Calls Try.prog 18 #[.pointer (some ⟨M9.t, 0, none⟩), .pointer (some ⟨Mm.t, 0, none⟩)] w' fun e w'' => e = .returned (.bool true) ∧ ∃ z, w'' = w'.ext z) := fun w' h => same_yes M9 Mm Y9.T lab2 labm3 w' (hT9.below h) (hTm.below h)
          clear f1 f2 f3 hF9 hT9 hPA9 g1m g2m hFm hTm hW9
          first | with_reducible refine wp_region_ext2 (by kernel_rfl) (by kernel_rfl) ?_ | refine wp_region_ext (by kernel_rfl) (by kernel_rfl) ?_
          repeat (go_big_quiet_step ((go_at_call 18; with_reducible exact Calls.ext_of (SM.out _ (by (repeat (first | with_reducible exact Below.rf _ | with_reducible exact World.below_ext _ _ | with_reducible refine Below.ex ?_ _ | with_reducible refine Below.al ?_ _ | with_reducible refine Below.setCell ?_ (by simp) _ | with_reducible refine Below.drew ?_)))))))
          refine wpQuiet_nil ?_
          rintro w10 ⟨z, hw2⟩
          have HB10 : Hid (Below w3.heap.size w3 w10) := by unfold Hid; rw [hw2]; exact World.below_ext _ _
          clear hw2
          obtain ⟨labN, -, -, HMN⟩ := Pm.below HM3.out (Play.bl HP3.out).size HB10.out (fun _ _ => rfl)
          have HMN2 := hid HMN
          clear HMN
          go_wp2
          exact ⟨by first | exact Or.inl rfl | exact Or.inr rfl, ⟨lab2, labN, m2, D', fv2, tv2, Play.below HP3.out HB10.out, HIV5.out, HCL5.out, HFX5.out, HMN2.out⟩, pickU rfl⟩
        --END 5
end Go.Proofs.Qxb6500716a
