/-
  VerifyAgrees: a round of the law, cut out.
-/
import Derived.Test.Qxb6500716aXa
import Derived.Test.Qxb6500716aXb
import Derived.Test.Qxb6500716aXc
import Derived.Test.Qxb6500716aLa
import Derived.WalkSpells
namespace Go.Proofs.Qxb6500716a
open Go.RowKit Go.Maps
set_option linter.unusedSimpArgs false
set_option linter.unusedVariables false
set_option maxRecDepth 20000
set_option maxHeartbeats 4000000
theorem KD.rl {lab l : Nat → Nat} {d : Nat} {w w1 : World} (h : KD lab d w w1) (hl : ∀ j, j < w.heap.size → l j = lab j) : KD l d w w1 :=
  ⟨⟨h.k.os, h.k.tape, h.k.output, h.k.size, fun k hk hn => h.k.block k hk (by rw [← hl k hk]; exact hn)⟩, fun j hj h1 h2 => h.o j hj (by rw [← hl j hj]; exact h1) h2⟩
theorem step_zero (D : Dk) (o : Opr) (h : o.K = 0) : (D.step o).1.ask = false := by
  unfold Dk.step
  rw [if_pos h]
  unfold wldAns
  split
  · rfl
  · split <;> rfl
/-- What a round leaves. -/
def rnd9 (sb so n cap d rb i : Nat) (w : World) (Fr : Value → Act → Prop) (e : Exit) (a' : Act) (w'' : World) : Prop :=
  (e = .normal ∨ e = .exit 1) ∧ ∃ v5, (∃ (lab : Nat → Nat) (m : DM) (D : Dk) (q : Rq) (gv : Value) (L : List Plx), Play w w'' lab d (i + 1) m D ∧ D.inv ∧ D.cel ∧ D.nbs ∧ Pn w'' lab d rb D q gv v5 L) ∧ Fr v5 a'
theorem setr_kept (rb : Nat) (q1 : Rq) (gv1 : Value) (w : World) : KeptBut rb w (((((((w).setCell ⟨rb, 0, none⟩ (.int .i64 (q1.r))).setCell ⟨rb, 1, none⟩ (.int .i64 (q1.s))).setCell ⟨rb, 2, none⟩ (.int .i64 (q1.t))).setCell ⟨rb, 3, none⟩ gv1).setCell ⟨rb, 4, none⟩ (.int .i64 (q1.h))).setCell ⟨rb, 5, none⟩ (.int .i64 (q1.m))) := by
  refine KeptBut.set ?_ (Or.inl (by rfl)) _
  refine KeptBut.set ?_ (Or.inl (by rfl)) _
  refine KeptBut.set ?_ (Or.inl (by rfl)) _
  refine KeptBut.set ?_ (Or.inl (by rfl)) _
  refine KeptBut.set ?_ (Or.inl (by rfl)) _
  refine KeptBut.set ?_ (Or.inl (by rfl)) _
  exact KeptBut.refl rb w
theorem setr_blk {rb : Nat} {q q1 : Rq} {gv gv1 : Value} {w : World} (h : Blk w rb 6 (rq4 q gv)) : Blk (((((((w).setCell ⟨rb, 0, none⟩ (.int .i64 (q1.r))).setCell ⟨rb, 1, none⟩ (.int .i64 (q1.s))).setCell ⟨rb, 2, none⟩ (.int .i64 (q1.t))).setCell ⟨rb, 3, none⟩ gv1).setCell ⟨rb, 4, none⟩ (.int .i64 (q1.h))).setCell ⟨rb, 5, none⟩ (.int .i64 (q1.m))) rb 6 (rq4 q1 gv1) := by
  refine ((((((h.set 0 _ (by omega)).set 1 _ (by omega)).set 2 _ (by omega)).set 3 _ (by omega)).set 4 _ (by omega)).set 5 _ (by omega)).congr (fun i hi => ?_)
  rcases (by omega : i = 0 ∨ i = 1 ∨ i = 2 ∨ i = 3 ∨ i = 4 ∨ i = 5) with rfl | rfl | rfl | rfl | rfl | rfl <;> rfl
theorem D42.kept {w w' : World} {b d fb : Nat} {q : Rq} {gv pv dv : Value} {c t x : Int} (h : D42 w d fb q gv pv dv c t x) (hk : KeptBut b w w') (hn : d ≠ b) : D42 w' d fb q gv pv dv c t x := by
  have hc : ∀ i, w'.cell? ⟨d, i, none⟩ = w.cell? ⟨d, i, none⟩ := fun i => World.cell?_of_block (hk.block d h.lt hn)
  exact ⟨(hc _).trans h.c0, (hc _).trans h.c4, (hc _).trans h.c5, (hc _).trans h.c6, (hc _).trans h.c7, (hc _).trans h.c8, (hc _).trans h.c9, (hc _).trans h.c10, (hc _).trans h.c11, (hc _).trans h.c12, (hc _).trans h.c13, (hc _).trans h.c14, Nat.lt_of_lt_of_le h.lt hk.size⟩
/-- The list of plans begins with the plan itself. -/
theorem OPX.start {wA w9 : World} (p0 : Plx) (hone : w9 = wA.alloc (.cells #[.int .u8 p0.c, .int .i64 (p0.t), p0.pv, p0.dv, .int .i64 (p0.x)] 34)) : OPX wA w9 (.slice (some ⟨wA.heap.size, 0, none⟩) 1 1) p0 0 := by
  have hb : Below wA.heap.size wA w9 := by rw [hone]; (repeat (first | with_reducible exact Below.rf _ | with_reducible exact World.below_ext _ _ | with_reducible refine Below.ex ?_ _ | with_reducible refine Below.al ?_ _ | with_reducible refine Below.setCell ?_ (by simp) _ | with_reducible refine Below.drew ?_))
  refine ⟨[], fun b => if b = wA.heap.size then 1 else 0, rfl, hb, ⟨rfl, some ⟨wA.heap.size, 0, none⟩, 1, rfl, Nat.le_refl _, Or.inr ⟨wA.heap.size, rfl, ⟨if_pos rfl, Nat.zero_le _⟩, ?_⟩⟩, fun b hb => ?_, fun p hp => by simp at hp⟩
  · refine ⟨by rw [hone]; simp, fun j hj => ?_, fun j hj => ?_, fun j u hu => ?_, by simp [cellsL, Plx.pcs]⟩
    · rw [hone]
      rcases (by omega : j = 0 ∨ j = 1 ∨ j = 2 ∨ j = 3 ∨ j = 4) with rfl | rfl | rfl | rfl | rfl <;> simp [go_sem, ↓IntWalk.iteOmega]
    · rw [hone]
      simp [go_sem, ↓IntWalk.iteOmega]
    · rw [hone]
      match j with
      | 0 => simp [cellsL, Plx.pcs] at hu; simp [go_sem, ↓IntWalk.iteOmega, hu]
      | 1 => simp [cellsL, Plx.pcs] at hu; simp [go_sem, ↓IntWalk.iteOmega, hu]
      | 2 => simp [cellsL, Plx.pcs] at hu; simp [go_sem, ↓IntWalk.iteOmega, hu]
      | 3 => simp [cellsL, Plx.pcs] at hu; simp [go_sem, ↓IntWalk.iteOmega, hu]
      | 4 => simp [cellsL, Plx.pcs] at hu; simp [go_sem, ↓IntWalk.iteOmega, hu]
      | j + 5 => simp [cellsL, Plx.pcs] at hu
  · show (if b = wA.heap.size then 1 else 0) ≠ 1
    rw [if_neg (by omega)]
    omega
set_option maxRecDepth 1000000 in
set_option maxHeartbeats 400000000 in
theorem body9 (sb so n cap d rb i : Nat) (o : Nat → Opr) (lao : Nat → Option Addr) (lcap : Nat → Nat) (w wr : World) (lab : Nat → Nat) (m : DM) (D : Dk) (q : Rq) (gv v : Value) (L : List Plx) (hS : Scr w sb so n o lao lcap) (hin : i < n) (hn1 : n ≤ 65536) (hn2 : ∀ i, i < n → (o i).l.length ≤ 65536) (hdw : w.heap.size ≤ d) (hrw : w.heap.size ≤ rb) (hP : Play w wr lab d i m D) (hinv : D.inv) (hcel : D.cel) (hnbs : D.nbs) (hPn : Pn wr lab d rb D q gv v L) (x0 x1 x2 x6 x7 x8 x9 x10 x11 x12 x13 x14 x15 x16 x17 x18 x19 x20 x22 x24 x25 x26 x27 x28 x29 x30 x31 x32 x33 x34 x35 x36 x37 x38 x39 x40 x41 x42 x43 x44 x45 x46 x47 x48 x49 x50 x51 x52 x53 x54 x55 x56 x57 x58 x59 x60 x61 x62 x63 x64 x65 x66 x67 x68 x69 x70 x71 x72 x73 x74 x75 x76 x77 x78 x79 x80 x81 x82 x83 x84 x85 x86 x87 x88 x89 x90 x91 x92 x93 x94 x95 x96 x97 x98 x99 x100 x101 x102 x103 x104 x105 x106 x107 x108 x109 x110 x111 x112 x113 x114 x115 x116 x117 x118 x119 x120 x121 x122 x123 x124 x125 x126 x127 x128 x129 x130 x131 x132 x133 x134 x135 x136 x137 x138 x139 x140 x141 x142 x143 x144 x145 x146 x147 x148 x149 x150 x151 x152 x153 x154 x155 x156 x157 x158 x159 x160 x161 x162 x163 x164 x165 x166 x167 x168 x169 x170 x171 x172 x173 x174 x175 x176 x177 x178 x179 x180 x181 x182 x183 x184 x185 x186 x187 x188 x189 x190 x191 x192 x193 x194 x195 x196 x197 x198 x199 x200 x201 : Value) :
    Code.wp Try.prog ((Try.f9.body.bind (findBlock 1)).getD .skip) (rnd9 sb so n cap d rb i w (fun v5 a' => ∃ UBO : Nat → Value, a' = ⟨List.toArray (x0 :: x1 :: UBO 2 :: .pointer (some ⟨d, 0, none⟩) :: .pointer (some ⟨rb, 0, none⟩) :: v5 :: UBO 6 :: UBO 7 :: x8 :: UBO 9 :: UBO 10 :: UBO 11 :: UBO 12 :: UBO 13 :: x14 :: UBO 15 :: x16 :: x17 :: x18 :: x19 :: x20 :: (.slice (some ⟨sb, so, none⟩) n cap) :: x22 :: .int .i64 (i) :: x24 :: UBO 25 :: UBO 26 :: UBO 27 :: UBO 28 :: UBO 29 :: UBO 30 :: UBO 31 :: UBO 32 :: UBO 33 :: UBO 34 :: UBO 35 :: UBO 36 :: UBO 37 :: UBO 38 :: UBO 39 :: UBO 40 :: UBO 41 :: UBO 42 :: UBO 43 :: UBO 44 :: UBO 45 :: UBO 46 :: UBO 47 :: UBO 48 :: UBO 49 :: UBO 50 :: UBO 51 :: UBO 52 :: UBO 53 :: UBO 54 :: UBO 55 :: UBO 56 :: UBO 57 :: UBO 58 :: UBO 59 :: UBO 60 :: UBO 61 :: UBO 62 :: UBO 63 :: UBO 64 :: UBO 65 :: UBO 66 :: UBO 67 :: UBO 68 :: UBO 69 :: UBO 70 :: UBO 71 :: UBO 72 :: UBO 73 :: UBO 74 :: UBO 75 :: UBO 76 :: UBO 77 :: UBO 78 :: UBO 79 :: UBO 80 :: UBO 81 :: UBO 82 :: UBO 83 :: UBO 84 :: UBO 85 :: UBO 86 :: UBO 87 :: UBO 88 :: UBO 89 :: UBO 90 :: UBO 91 :: UBO 92 :: UBO 93 :: UBO 94 :: UBO 95 :: UBO 96 :: UBO 97 :: UBO 98 :: UBO 99 :: UBO 100 :: UBO 101 :: UBO 102 :: UBO 103 :: UBO 104 :: UBO 105 :: UBO 106 :: UBO 107 :: UBO 108 :: UBO 109 :: UBO 110 :: UBO 111 :: UBO 112 :: UBO 113 :: UBO 114 :: UBO 115 :: UBO 116 :: UBO 117 :: UBO 118 :: UBO 119 :: UBO 120 :: UBO 121 :: UBO 122 :: UBO 123 :: UBO 124 :: UBO 125 :: UBO 126 :: UBO 127 :: UBO 128 :: UBO 129 :: UBO 130 :: UBO 131 :: UBO 132 :: UBO 133 :: UBO 134 :: UBO 135 :: UBO 136 :: UBO 137 :: UBO 138 :: UBO 139 :: UBO 140 :: UBO 141 :: UBO 142 :: UBO 143 :: UBO 144 :: UBO 145 :: UBO 146 :: UBO 147 :: UBO 148 :: UBO 149 :: UBO 150 :: UBO 151 :: UBO 152 :: UBO 153 :: UBO 154 :: UBO 155 :: UBO 156 :: UBO 157 :: UBO 158 :: UBO 159 :: UBO 160 :: UBO 161 :: UBO 162 :: UBO 163 :: UBO 164 :: UBO 165 :: UBO 166 :: UBO 167 :: UBO 168 :: UBO 169 :: UBO 170 :: UBO 171 :: UBO 172 :: UBO 173 :: UBO 174 :: UBO 175 :: UBO 176 :: UBO 177 :: UBO 178 :: UBO 179 :: UBO 180 :: UBO 181 :: UBO 182 :: UBO 183 :: UBO 184 :: UBO 185 :: UBO 186 :: UBO 187 :: UBO 188 :: UBO 189 :: UBO 190 :: UBO 191 :: UBO 192 :: UBO 193 :: UBO 194 :: UBO 195 :: UBO 196 :: UBO 197 :: UBO 198 :: UBO 199 :: UBO 200 :: x201 :: []), []⟩)) ⟨List.toArray (x0 :: x1 :: x2 :: .pointer (some ⟨d, 0, none⟩) :: .pointer (some ⟨rb, 0, none⟩) :: v :: x6 :: x7 :: x8 :: x9 :: x10 :: x11 :: x12 :: x13 :: x14 :: x15 :: x16 :: x17 :: x18 :: x19 :: x20 :: (.slice (some ⟨sb, so, none⟩) n cap) :: x22 :: .int .i64 (i) :: x24 :: x25 :: x26 :: x27 :: x28 :: x29 :: x30 :: x31 :: x32 :: x33 :: x34 :: x35 :: x36 :: x37 :: x38 :: x39 :: x40 :: x41 :: x42 :: x43 :: x44 :: x45 :: x46 :: x47 :: x48 :: x49 :: x50 :: x51 :: x52 :: x53 :: x54 :: x55 :: x56 :: x57 :: x58 :: x59 :: x60 :: x61 :: x62 :: x63 :: x64 :: x65 :: x66 :: x67 :: x68 :: x69 :: x70 :: x71 :: x72 :: x73 :: x74 :: x75 :: x76 :: x77 :: x78 :: x79 :: x80 :: x81 :: x82 :: x83 :: x84 :: x85 :: x86 :: x87 :: x88 :: x89 :: x90 :: x91 :: x92 :: x93 :: x94 :: x95 :: x96 :: x97 :: x98 :: x99 :: x100 :: x101 :: x102 :: x103 :: x104 :: x105 :: x106 :: x107 :: x108 :: x109 :: x110 :: x111 :: x112 :: x113 :: x114 :: x115 :: x116 :: x117 :: x118 :: x119 :: x120 :: x121 :: x122 :: x123 :: x124 :: x125 :: x126 :: x127 :: x128 :: x129 :: x130 :: x131 :: x132 :: x133 :: x134 :: x135 :: x136 :: x137 :: x138 :: x139 :: x140 :: x141 :: x142 :: x143 :: x144 :: x145 :: x146 :: x147 :: x148 :: x149 :: x150 :: x151 :: x152 :: x153 :: x154 :: x155 :: x156 :: x157 :: x158 :: x159 :: x160 :: x161 :: x162 :: x163 :: x164 :: x165 :: x166 :: x167 :: x168 :: x169 :: x170 :: x171 :: x172 :: x173 :: x174 :: x175 :: x176 :: x177 :: x178 :: x179 :: x180 :: x181 :: x182 :: x183 :: x184 :: x185 :: x186 :: x187 :: x188 :: x189 :: x190 :: x191 :: x192 :: x193 :: x194 :: x195 :: x196 :: x197 :: x198 :: x199 :: x200 :: x201 :: []), []⟩ wr := by
  obtain ⟨vo, vc, hvv⟩ := hPn.val
  obtain ⟨ln, hln0⟩ : ∃ y, L.length = y := ⟨_, rfl⟩
  rw [hln0] at hvv
  subst hvv
  have HLN := hid hln0
  clear hln0
  conv => arg 2; whnf
  have HS := hid hS
  have HN2 := hid hn2
  have HINV := hid hinv
  have HCEL := hid hcel
  have HNBS := hid hnbs
  have HPN := hid hPn
  clear hS hn2 hinv hcel hnbs hPn
  obtain ⟨c0, c1, c2, c3, c4, c5, c6⟩ := (HS.out.below hP.bl).cells i hin
  have hsb := (HS.out.below hP.bl).hsb
  have hdl := hP.dk.b.lt
  have HP := hid hP
  have hud : ∀ j, j < wr.heap.size → upd lab wr.heap.size 0 j = lab j := fun j hj => upd_ne _ _ (by omega)
  clear hP
  go_wp2_with (first | (go_at_call 12; refine hold ?_))
  unfold Hid
  refine calls_nm fun w4 hw4 => ?_
  have B4 : Below wr.heap.size wr w4 := by rw [hw4]; (repeat (first | with_reducible exact Below.rf _ | with_reducible exact World.below_ext _ _ | with_reducible refine Below.ex ?_ _ | with_reducible refine Below.al ?_ _ | with_reducible refine Below.setCell ?_ (by simp) _ | with_reducible refine Below.drew ?_))
  have X4 : Blk w4 wr.heap.size 7 (ocell (o i) (.slice (lao i) (o i).l.length (lcap i))) := by
    rw [hw4]
    refine ⟨by (simp <;> omega), fun i hi => ?_, fun i hi => by simp [go_sem, ↓IntWalk.iteOmega]⟩
    rcases (by omega : i = 0 ∨ i = 1 ∨ i = 2 ∨ i = 3 ∨ i = 4 ∨ i = 5 ∨ i = 6) with rfl | rfl | rfl | rfl | rfl | rfl | rfl <;> simp [go_sem, ↓IntWalk.iteOmega, ocell]
  have P4 := (HP.out.relab hud).below B4
  have N4 := (HPN.out.relab hud).below B4
  have hx4 : upd lab wr.heap.size 0 wr.heap.size = 0 := upd_at _ _ _
  have hrbx : rb < wr.heap.size := HPN.out.rq.lt
  obtain ⟨xb, hxb⟩ : ∃ y, wr.heap.size = y := ⟨_, rfl⟩
  rw [hxb] at X4 hx4 P4 N4 hrbx ⊢
  clear hw4
  refine (P4.call HS.out hin hn1 (HN2.out i hin)).mono ?_
  rintro e w5 ⟨l5, m5, av, rfl, hD5, hIv, hl5, hk5⟩
  have P5 := P4.next (o i) hD5 hl5 hk5
  have X5 := X4.keptL hk5.k (by rw [hx4]; unfold doL; omega)
  have N5 := (N4.relab hl5).kd (hk5.rl hl5)
  have HIV5 := hid (step_inv D (o i) HINV.out P5.fok)
  have HCL5 := hid (step_cel D (o i) HCEL.out HP.out.fok)
  have HNB5 := hid (step_nbs D (o i) HNBS.out)
  have HSV := hid (step_val D (o i) (fun Y hY => ⟨HP.out.fok Y hY, (HP.out.wb Y hY).ms, (HINV.out Y hY).2, (HP.out.wb Y hY).nr⟩))
  have HSZ := hid (step_zero D (o i))
  have HNA := hid (fun h0 : (o i).K ≠ 0 => N5.step (o i) h0)
  have HNZ := hid (N5.nil (D.step (o i)).1)
  have HOI := hid (HS.out.op i hin)
  obtain ⟨D', hD'⟩ : ∃ y, (D.step (o i)).1 = y := ⟨_, rfl⟩
  rw [hD'] at P5 HIV5 HCL5 HNB5 HSV HSZ HNA HNZ
  have HP5 := hid P5
  have HX5 := hid X5
  have hdl5 := P5.dk.b.lt
  have hxl5 := X5.lt
  have d3 : w5.cell? ⟨d, 3, none⟩ = some (.bool D'.ask) := P5.dk.b.is 3 (by omega)
  have d10 : w5.cell? ⟨d, 10, none⟩ = some (.int .u8 D'.pl.c) := P5.dk.b.is 10 (by omega)
  have x0 : w5.cell? ⟨xb, 0, none⟩ = some (.int .i64 ((o i).K)) := X5.is 0 (by omega)
  clear hud hdl c0 c1 c2 c3 c4 c5 c6 hsb B4 X4 P4 N4 hx4 hxb hIv hD5 hl5 hk5 hD' P5 X5 N5 HP HPN HINV HCEL HNBS
  by_cases hK : (o i).K = 0
  · --BEGIN Z
    rw [hK] at x0
    have ha := HSZ.out hK
    rw [ha] at d3
    clear ha
    go_wp2
    cases hW9 : D'.W with
    | none =>
      have htv : m5.tv = .pointer none := by
        have := HP5.out.dk.wd
        rw [hW9] at this
        exact this.2.1
      have d1 : w5.cell? ⟨d, 1, none⟩ = some (.pointer none) := by
        rw [HP5.out.dk.b.is 1 (by omega)]
        show some m5.tv = _
        rw [htv]
      have hd9 := HP5.out.dk.b.lt
      clear htv hW9
      first | with_reducible refine wp_region_ext2 (by kernel_rfl) (by kernel_rfl) ?_ | refine wp_region_ext (by kernel_rfl) (by kernel_rfl) ?_
      repeat (go_big_quiet_step (fail))
      refine wpQuiet_nil ?_
      rintro w10 ⟨z, hw2⟩
      have HB10 : Hid (Below w5.heap.size w5 w10) := by unfold Hid; rw [hw2]; exact World.below_ext _ _
      clear hw2
      go_wp2
      refine ⟨by first | exact Or.inl rfl | exact Or.inr rfl, _, ⟨l5, m5, D', q, gv, ([] : List Plx), HP5.out.below HB10.out, HIV5.out, HCL5.out, HNB5.out, HNZ.out.below HB10.out⟩, pickU rfl⟩
    | some Y =>
      have hw := HP5.out.dk.wd
      rw [hW9] at hw
      obtain ⟨fb9, M9, N9, n9, f1, f2, f3, hF9, hT9, hPA9⟩ := hw
      have hwb9 := HP5.out.wb Y hW9
      have d0 : w5.cell? ⟨d, 0, none⟩ = some (.pointer (some ⟨fb9, 0, none⟩)) := by
        rw [HP5.out.dk.b.is 0 (by omega)]
        show some m5.fv = _
        rw [f1]
      have d1 : w5.cell? ⟨d, 1, none⟩ = some (.pointer (some ⟨M9.t, 0, none⟩)) := by
        rw [HP5.out.dk.b.is 1 (by omega)]
        show some m5.tv = _
        rw [f2]
      have d2 : w5.cell? ⟨d, 2, none⟩ = some (.pointer (some ⟨N9.p, 0, none⟩)) := by
        rw [HP5.out.dk.b.is 2 (by omega)]
        show some m5.pv = _
        rw [f3]
      have hd9 := HP5.out.dk.b.lt
      have t2 : w5.cell? ⟨rb, 2, none⟩ = some (.int .i64 (q.t)) := HNZ.out.rq.is 2 (by omega)
      have hr9 := HNZ.out.rq.lt
      have HRC : Hid (([] : List Plx) ≠ [] → (Y.T.base : Int) ≤ q.t → rcode Y.F Y.T q = 0) := fun h1 h2 => by
        obtain ⟨X1, hX1, T0, hT0, hb0⟩ := HNZ.out.ok h1
        obtain rfl : Y = X1 := Option.some.inj (hW9.symm.trans hX1)
        exact rcode_slid hT0 hb0 h2
      have BA : Hid (∀ w', Below w5.heap.size w5 w' → Calls Try.prog 44 #[.pointer (some ⟨M9.t, 0, none⟩)] w' fun e w'' => e = .returned (.int .i64 (Y.T.base)) ∧ w'' = w') := fun w' h => base_any M9 Y.T l5 w' (hT9.below h)
      have HIY := hid (HIV5.out Y hW9)
      have HCY := hid (HCL5.out Y hW9)
      have HWB9 := hid hwb9
      have HF9 := hid hF9
      have HT9 := hid hT9
      have HPA9 := hid hPA9
      have hqi := HNZ.out.i.t
      unfold I64 at hqi
      clear f1 f2 f3 hF9 hT9 hPA9 hwb9 hW9
      by_cases hbt : q.t < (Y.T.base : Int)
      · have db : decide (q.t < (Y.T.base : Int)) = true := by simp [hbt]
        first | with_reducible refine wp_region_ext2 (by kernel_rfl) (by kernel_rfl) ?_ | refine wp_region_ext (by kernel_rfl) (by kernel_rfl) ?_
        repeat (go_big_quiet_step ((go_at_call 44; exact Calls.ext_of_same (BA.out _ (by (repeat (first | with_reducible exact Below.rf _ | with_reducible exact World.below_ext _ _ | with_reducible refine Below.ex ?_ _ | with_reducible refine Below.al ?_ _ | with_reducible refine Below.setCell ?_ (by simp) _ | with_reducible refine Below.drew ?_)))))))
        refine wpQuiet_nil ?_
        rintro w10 ⟨z, hw2⟩
        have HB10 : Hid (Below w5.heap.size w5 w10) := by unfold Hid; rw [hw2]; exact World.below_ext _ _
        clear hw2
        go_wp2
        refine ⟨by first | exact Or.inl rfl | exact Or.inr rfl, _, ⟨l5, m5, D', q, gv, ([] : List Plx), HP5.out.below HB10.out, HIV5.out, HCL5.out, HNB5.out, HNZ.out.below HB10.out⟩, pickU rfl⟩
      · have db : decide (q.t < (Y.T.base : Int)) = false := by simp; omega
        first | with_reducible refine wp_region_ext2 (by kernel_rfl) (by kernel_rfl) ?_ | refine wp_region_ext (by kernel_rfl) (by kernel_rfl) ?_
        repeat (go_big_quiet_step ((go_at_call 44; exact Calls.ext_of_same (BA.out _ (by (repeat (first | with_reducible exact Below.rf _ | with_reducible exact World.below_ext _ _ | with_reducible refine Below.ex ?_ _ | with_reducible refine Below.al ?_ _ | with_reducible refine Below.setCell ?_ (by simp) _ | with_reducible refine Below.drew ?_)))))))
        refine wpQuiet_nil ?_
        rintro w10 ⟨z, hw2⟩
        have hb10 : Below w5.heap.size w5 w10 := by rw [hw2]; exact World.below_ext _ _
        clear hw2
        have g0 := (World.cell?_of_block (hb10.block d hd9)).trans d0
        have g1 := (World.cell?_of_block (hb10.block d hd9)).trans d1
        have hd10 := Nat.lt_of_lt_of_le hd9 hb10.size
        have HB10 := hid hb10
        clear d0 d1 t2 hr9 hb10
        go_wp2
        first | with_reducible refine wp_region_tail_ext2 9 (by kernel_rfl) (by kernel_rfl) ?_ | refine wp_region_tail_ext 9 (by kernel_rfl) (by kernel_rfl) ?_
        simp only [List.take_succ_cons, List.take_zero, List.drop_succ_cons, List.drop_zero]
        repeat (go_big_quiet_step (fail))
        refine wpQuiet_nil ?_
        rintro _ ⟨z, rfl⟩
        refine wpl_nm fun w11 hw11 => ?_
        have hb11 : Below w10.heap.size w10 w11 := by rw [hw11]; exact World.below_ext _ _
        clear hw11
        go_wp2
        refine wp_nm fun w12 hw12 => ?_
        have hb12 : Below w11.heap.size w11 w12 := by rw [hw12]; (repeat (first | with_reducible exact Below.rf _ | with_reducible exact World.below_ext _ _ | with_reducible refine Below.ex ?_ _ | with_reducible refine Below.al ?_ _ | with_reducible refine Below.setCell ?_ (by simp) _ | with_reducible refine Below.drew ?_))
        have hmo : MoAt w12 w11.heap.size fb9 M9.t := by
          rw [hw12]
          exact ⟨by simp [go_sem, ↓IntWalk.iteOmega], by simp [go_sem, ↓IntWalk.iteOmega], by simp <;> omega⟩
        have hb9 : Below w5.heap.size w5 w12 := HB10.out.trans ((hb11.trans (hb12.mono hb11.size)).mono HB10.out.size)
        have HN12 := hid (HNZ.out.below hb9)
        have HP12 := hid (HP5.out.below hb9)
        refine pl_loop w12 l5 d rb w11.heap.size fb9 n9 _ Y.F Y.T M9 N9 Y.S D' q gv _ ([] : List Plx) HN12.out (HF9.out.below hb9) (HT9.out.below hb9) (HPA9.out.below hb9) hmo ((World.cell?_of_block (hb9.block d hd9)).trans d2) HP12.out.dk.b.lt HIY.out.2 HCY.out HWB9.out.nr HWB9.out.nc (fun h => HRC.out h (by omega)) rfl _ _ _ _ _ _ _ _ _ _ _ _ _ _ _ _ _ _ _ _ _ _ _ _ _ _ _ _ _ _ _ _ _ _ _ _ _ _ _ _ _ _ _ _ _ _ _ _ _ _ _ _ _ _ _ _ _ _ _ _ _ _ _ _ _ _ _ _ _ _ _ _ _ _ _ _ _ _ _ _ _ _ _ _ _ _ _ _ _ _ _ _ _ _ _ _ _ _ _ _ _ _ _ _ _ _ _ _ _ _ _ _ _ _ _ _ _ _ _ _ _ _ _ _ _ _ _ _ _ _ _ _ _ _ _ _ _ _ _ _ _ _ _ _ _ _ _ _ _ _ _ _ _ _ _ _ _ _ _ _ _ _ _ _ _ _ _ _ _ _ _ _ _ _ _ _ _ _ _ _ _ _ _ _ _ _ _ _ _ _ _ _ _ _ _ _ _ ?_
        intro aL w13 hE
        obtain ⟨hBL, hE⟩ := hE
        obtain ⟨UPL, hE⟩ := hE
        obtain rfl := hE
        have HB13 := hid hBL
        clear hBL hmo hb12 hb11 hb9 hw12
        go_wp2
        refine ⟨by first | exact Or.inl rfl | exact Or.inr rfl, _, ⟨l5, m5, D', q, gv, ([] : List Plx), HP12.out.below HB13.out, HIV5.out, HCL5.out, HNB5.out, HN12.out.below HB13.out⟩, pickU rfl⟩
    --END Z
  · have dK : ((o i).K == 0) = false := by simp [hK]
    have HN5 := hid (HNA.out hK)
    by_cases ha : D'.ask = true
    · rw [ha] at d3
      by_cases hc : D'.pl.c = 0
      · rw [hc] at d10
        --BEGIN M
        obtain ⟨X, T', S', hX, hX', hq, hpt, hfd, hval, hbase, hK56⟩ := HSV.out ha hc
        have hw := HP5.out.dk.wd
        rw [hX'] at hw
        obtain ⟨fb, M, N, n5, f1, f2, f3, hF, hT, hPA⟩ := hw
        have hwb := HP5.out.wb _ hX'
        have hiv := HIV5.out _ hX'
        have hcl := HCL5.out _ hX'
        have hnb := HNB5.out _ hX'
        obtain ⟨q1, hq1⟩ : ∃ y, rqOf (o i) = y := ⟨_, rfl⟩
        have hqC : (o i).C = q1.t := by rw [← hq1]; rfl
        have hqD : (o i).D = q1.h := by rw [← hq1]; rfl
        have hqE : (o i).E = q1.m := by rw [← hq1]; rfl
        rw [hq1] at hq hpt hfd hval
        have hok : FOk X.F := hF.ok
        have hrk := rok_of hok hfd.rc
        have hlen := hfd.len
        have hln := hfd.len2 hok
        have hdn := hfd.dones hok
        have hcl2 := hfd.cell hok
        have hbd : T'.base ≤ 1073741824 := hT.bd.base
        have hrc : rcode X.F T' q1 = 0 := rcode_slid hfd.rc (Nat.le_of_eq hbase.symm) (by rw [hbase]; exact hrk.t.1)
        have hnr : T'.nr = X.F.bays.length := hwb.nr
        have hnc : T'.nc = X.F.n := hwb.nc
        have hhc : T'.held ≤ T'.cap := hwb.held
        have hTI : TInv T' := hiv.2
        have hTC : T'.Cel := hcl
        have hnb1 : X.F.near q1.s.toNat ≠ [] := hnb q1.s.toNat (show q1.s.toNat < X.F.n by have := hrk.s; omega)
        have hver := (ver_val hok hTI hTC hnr hnc hrc 0 q1.t D'.pl.path D'.pl.done (by omega)).2 hval
        have hqr := hrk.r
        have hqs := hrk.s
        have hqt := hrk.t
        have hqh := hrk.h
        have hqm := hrk.m
        have hgk := hrk.gok
        have hnbb := hok.nb
        have hfn := hok.n
        have hglen : q1.gl.length ≤ 1000 := by
          have := hrk.gok.1
          omega
        rw [hbase.symm] at hqt
        have hqi : RqI q1 := ⟨by unfold I64; omega, by unfold I64; omega, by unfold I64; omega, by unfold I64; omega, by unfold I64; omega⟩
        have hdc : ∀ k, k < 15 → w5.cell? ⟨d, k, none⟩ = some (dcell m5 D' k) := HP5.out.dk.b.is
        have d1 : w5.cell? ⟨d, 1, none⟩ = some (.pointer (some ⟨M.t, 0, none⟩)) := by
          rw [hdc 1 (by omega)]
          show some m5.tv = _
          rw [f2]
        have d2 : w5.cell? ⟨d, 2, none⟩ = some (.pointer (some ⟨N.p, 0, none⟩)) := by
          rw [hdc 2 (by omega)]
          show some m5.pv = _
          rw [f3]
        have hD42 : D42 w5 d fb q1 m5.gv m5.pa m5.da 0 q1.t D'.pl.x := by
          refine ⟨?_, ?_, ?_, ?_, ?_, ?_, ?_, ?_, ?_, ?_, ?_, ?_, hdl5⟩
          · rw [hdc 0 (by omega)]
            show some m5.fv = _
            rw [f1]
          · rw [← hq]
            exact hdc 4 (by omega)
          · rw [← hq]
            exact hdc 5 (by omega)
          · rw [← hq]
            exact hdc 6 (by omega)
          · exact hdc 7 (by omega)
          · rw [← hq]
            exact hdc 8 (by omega)
          · rw [← hq]
            exact hdc 9 (by omega)
          · exact d10
          · rw [← hpt]
            exact hdc 11 (by omega)
          · exact hdc 12 (by omega)
          · exact hdc 13 (by omega)
          · exact hdc 14 (by omega)
        have hG : GAt w5 l5 m5.gv q1.gl := by
          rw [← hq]
          exact HP5.out.dk.g
        have hIp := HP5.out.dk.pp
        have hId := HP5.out.dk.pd
        have x3 : w5.cell? ⟨xb, 3, none⟩ = some (.int .i64 (q1.t)) := by
          rw [← hqC]
          exact HX5.out.is 3 (by omega)
        have x4 : w5.cell? ⟨xb, 4, none⟩ = some (.int .i64 (q1.h)) := by
          rw [← hqD]
          exact HX5.out.is 4 (by omega)
        have x5 : w5.cell? ⟨xb, 5, none⟩ = some (.int .i64 (q1.m)) := by
          rw [← hqE]
          exact HX5.out.is 5 (by omega)
        obtain ⟨pa, hpa⟩ : ∃ y, m5.pa = y := ⟨_, rfl⟩
        obtain ⟨da, hda⟩ : ∃ y, m5.da = y := ⟨_, rfl⟩
        obtain ⟨gv1, hgv⟩ : ∃ y, m5.gv = y := ⟨_, rfl⟩
        obtain ⟨path, hpath⟩ : ∃ y, D'.pl.path = y := ⟨_, rfl⟩
        obtain ⟨done, hdone⟩ : ∃ y, D'.pl.done = y := ⟨_, rfl⟩
        obtain ⟨x, hx⟩ : ∃ y, D'.pl.x = y := ⟨_, rfl⟩
        rw [hpa, hda, hgv, hx] at hD42
        rw [hgv] at hG
        rw [hpa, hpath] at hIp
        rw [hda, hdone] at hId
        rw [hpath, hdone] at hver
        rw [hpath] at hlen hln hcl2
        rw [hdone] at hdn
        obtain ⟨po, pc, hpv, hpcc⟩ := hIp.ex
        obtain ⟨pn, hpn⟩ : ∃ y, path.length = y := ⟨_, rfl⟩
        rw [hpn] at hpv hlen hln hpcc
        subst hpv
        obtain ⟨go, gc, hgvx, -⟩ := hG.ex
        obtain ⟨gn, hgn⟩ : ∃ y, q1.gl.length = y := ⟨_, rfl⟩
        rw [hgn] at hgvx
        subst hgvx
        obtain ⟨dq, dc, hdvx, -⟩ := hId.ex
        obtain ⟨dn, hdnl⟩ : ∃ y, done.length = y := ⟨_, rfl⟩
        rw [hdnl] at hdvx
        subst hdvx
        obtain ⟨cC, hcC⟩ : ∃ y : Nat, q1.t = y := ⟨q1.t.toNat, by omega⟩
        obtain ⟨cD, hcD⟩ : ∃ y : Nat, q1.h = y := ⟨q1.h.toNat, by omega⟩
        obtain ⟨cE, hcE⟩ : ∃ y : Nat, q1.m = y := ⟨q1.m.toNat, by omega⟩
        rw [hcC] at x3
        rw [hcD] at x4
        rw [hcE] at x5
        have hcb1 : cC ≤ 2000000000 := by omega
        have hcb2 : cD ≤ 255 := by omega
        have hcb3 : cE ≤ 1048576 := by omega
        clear hcC hcD hcE
        have HD42 := hid hD42
        have HPV : Hid (Vq X.F q1 path done q1.t) := ⟨by omega, by omega, by omega, fun y hy => by have := hdn.2 y hy; omega, hqi, hgk⟩
        have VE : Hid (∀ w', Below w5.heap.size w5 w' → Calls Try.prog 41 #[.pointer (some ⟨N.p, 0, none⟩), .agg #[.int .i64 ((q1).r), .int .i64 ((q1).s), .int .i64 ((q1).t), .slice go gn gc, .int .i64 ((q1).h), .int .i64 ((q1).m)], .agg #[.int .u8 (0), .int .i64 (q1.t), .slice po pn pc, .slice dq dn dc, .int .i64 (x)]] w' fun e w'' => e = .returned (.int .i64 (0)) ∧ ∃ z, w'' = w'.ext z) := fun w' h => by
          have := verify_any M T' N S' n5 fb X.F l5 q1 (.slice go gn gc) 0 q1.t x (.slice po pn pc) (.slice dq dn dc) path done w' (hF.below h) (hT.below h) (hPA.below h) (hG.below h) hqi.r (hIp.below h) (hId.below h) (by omega) (by omega) (fun i => getD_I64 hIp.i64 i) (fun y hy => by have := hdn.2 y hy; omega)
          rw [hver] at this
          exact this
        have IN : Hid (∀ w', Below w5.heap.size w5 w' → Calls Try.prog 42 #[.pointer (some ⟨d, 0, none⟩), .pointer (some ⟨M.t, 0, none⟩), .int .i64 ((i : Int) + (pn : Int) + (cD : Int))] w' fun e w'' => ∃ tv, e = .returned tv ∧ ∃ w0, Below w5.heap.size w5 w0 ∧ OV w0 w'' tv T' 4) := fun w' h => by
          have := intrude_any d fb M X.F T' l5 q1 (.slice go gn gc) (.slice po pn pc) (.slice dq dn dc) 0 q1.t x path (i + pn + cD) w' ⟨_, _, _, rfl⟩ (HD42.out.below h) (hF.below h) (hT.below h) (hIp.below h) (by rw [hpn]; omega) hqr hqs (by omega) (by omega) hhc (by omega) hnb1
          rw [show (((i + pn + cD : Nat)) : Int) = (i : Int) + (pn : Int) + (cD : Int) by omega] at this
          refine this.mono ?_
          rintro e w'' ⟨tv, he, hO⟩
          exact ⟨tv, he, w', h, hO⟩
        have SX : Hid (∀ w', Below w5.heap.size w5 w' → w'.cell? ⟨d, 1, none⟩ = some (.pointer (some ⟨M.t, 0, none⟩)) ∧ w'.cell? ⟨d, 12, none⟩ = some (.slice po pn pc) ∧ w'.cell? ⟨xb, 4, none⟩ = some (.int .i64 ((cD : Int)))) := fun w' h =>
          ⟨(World.cell?_of_block (h.block d hdl5)).trans d1, (HD42.out.below h).c12, (World.cell?_of_block (h.block xb hxl5)).trans x4⟩
        have HFF : Hid (FAt w5 l5 fb X.F) := hF
        have HGG := hid hG
        have HIP := hid hIp
        have HID := hid hId
        have HTI := hid hTI
        have HTC := hid hTC
        have HNR := hid hnr
        have HNC := hid hnc
        have HRC1 := hid hrc
        have HDN := hid hdn
        have HPN := hid hpn
        have HQI := hid hqi
        have HOK : Hid (∃ X, D'.W = some X ∧ ∃ T, rcode X.F T q1 = 0 ∧ T.base ≤ X.T.base) := ⟨_, hX', T', hrc, Nat.le_refl _⟩
        have HGL := hid hglen
        obtain ⟨e0, e4, e5, e6, e7, e8, e9, e10, e11, e12, e13, e14⟩ := hD42.s
        clear hwb hiv hcl hnb hq1 hq hpt hfd hval hbase hok hrk hdn hcl2 hrc hnr hnc hhc hTI hTC hnb1 hver hgk hqi hdc hG hIp hId hD42 hpa hda hgv hpath hdone hx hpn hqC hqD hqE hX hX' f1 f2 f3 hF hT hPA hglen HSV HNA HNZ hK56 d10
        go_wp2
        first | with_reducible refine wp_region_ext2 (by kernel_rfl) (by kernel_rfl) ?_ | refine wp_region_ext (by kernel_rfl) (by kernel_rfl) ?_
        repeat (go_big_quiet_step ((go_at_call 41; with_reducible exact Calls.ext_of (VE.out _ (by (repeat (first | with_reducible exact Below.rf _ | with_reducible exact World.below_ext _ _ | with_reducible refine Below.ex ?_ _ | with_reducible refine Below.al ?_ _ | with_reducible refine Below.setCell ?_ (by simp) _ | with_reducible refine Below.drew ?_)))))))
        refine wpQuiet_nil ?_
        rintro w6 ⟨z, hw2⟩
        have HB6 : Hid (Below w5.heap.size w5 w6) := by unfold Hid; rw [hw2]; exact World.below_ext _ _
        clear hw2 VE
        obtain ⟨g1, g12, y4⟩ := SX.out w6 HB6.out
        have hd6 := Nat.lt_of_lt_of_le hdl5 HB6.out.size
        have hx6 := Nat.lt_of_lt_of_le hxl5 HB6.out.size
        have fz1 : IntKind.i64.wrap ((i : Int) + (pn : Int)) = (i : Int) + (pn : Int) := by simp [IntKind.wrap, IntKind.bits, IntKind.signed]; omega
        have fz2 : IntKind.i64.wrap ((i : Int) + (pn : Int) + (cD : Int)) = (i : Int) + (pn : Int) + (cD : Int) := by simp [IntKind.wrap, IntKind.bits, IntKind.signed]; omega
        clear e0 e4 e5 e6 e7 e8 e9 e10 e11 e12 e13 e14 d1 d2 d3 x0
        go_wp2
        go_region_held3 (fun w' => w'.cell? ⟨d, 1, none⟩ = some (.pointer (some ⟨M.t, 0, none⟩)) ∧ w'.cell? ⟨d, 12, none⟩ = some (.slice po pn pc) ∧ w'.cell? ⟨xb, 4, none⟩ = some (.int .i64 ((cD : Int)))) (first | with_reducible assumption | simp [go_sem, ↓IntWalk.iteOmega, *]) ((go_at_call 42; refine (IN.out _ (HB6.out.trans (Below.mono (by (repeat (first | with_reducible exact Below.rf _ | with_reducible exact World.below_ext _ _ | with_reducible refine Below.ex ?_ _ | with_reducible refine Below.al ?_ _ | with_reducible refine Below.setCell ?_ (by simp) _ | with_reducible refine Below.drew ?_))) HB6.out.size))).mono ?_; rintro e w7 ⟨tv, rfl, w0, hb0, hO7⟩; have s7 := SX.out w7 (hb0.trans (hO7.bl.mono hb0.size)); obtain ⟨tb, tc, htv, -⟩ := hO7.look (by omega); subst htv))
        go_wp2
        refine tl_loop w0 w7 l5 d fb X.F T' q1 (.slice go gn gc) (.slice po pn pc) (.slice dq dn dc) 0 q1.t x path done _ (HD42.out.below hb0) (HFF.out.below hb0) (HGG.out.below hb0) (HIP.out.below hb0) (HID.out.below hb0) hO7 HTI.out HTC.out HNR.out HNC.out HRC1.out HPV.out _ _ _ _ _ _ _ _ _ _ _ _ _ _ _ _ _ _ _ _ _ _ _ _ _ _ _ _ _ _ _ _ _ _ _ _ _ _ _ _ _ _ _ _ _ _ _ _ _ _ _ _ _ _ _ _ _ _ _ _ _ _ _ _ _ _ _ _ _ _ _ _ _ _ _ _ _ _ _ _ _ _ _ _ _ _ _ _ _ _ _ _ _ _ _ _ _ _ _ _ _ _ _ _ _ _ _ _ _ _ _ _ _ _ _ _ _ _ _ _ _ _ _ _ _ _ _ _ _ _ _ _ _ _ _ _ _ _ _ _ _ _ _ _ _ _ _ _ _ _ _ _ _ _ _ _ _ _ _ _ _ _ _ _ _ _ _ _ _ _ _ _ _ _ _ _ _ _ _ _ _ _ _ _ _ _ _ _ _ _ _ _ _ _ _ _ _ _ _ ?_
        intro aL w8 hE
        obtain ⟨hBL, hE⟩ := hE
        obtain ⟨UTL, hE⟩ := hE
        obtain rfl := hE
        have h58 : Below w5.heap.size w5 w8 := hb0.trans ((hO7.bl.trans (hBL.mono hO7.bl.size)).mono hb0.size)
        have hR8 := (HN5.out.below h58).rq
        have r0 := hR8.is 0 (by omega)
        have r1 := hR8.is 1 (by omega)
        have r2 := hR8.is 2 (by omega)
        have r3 := hR8.is 3 (by omega)
        have r4 := hR8.is 4 (by omega)
        have r5 := hR8.is 5 (by omega)
        have z0 := hR8.fz 0 (by omega)
        have z1 := hR8.fz 1 (by omega)
        have z2 := hR8.fz 2 (by omega)
        have z3 := hR8.fz 3 (by omega)
        have z4 := hR8.fz 4 (by omega)
        have z5 := hR8.fz 5 (by omega)
        have hr8 := hR8.lt
        simp only [rq4] at r0 r1 r2 r3 r4 r5
        obtain ⟨e0, e4, e5, e6, e7, e8, e9, e10, e11, e12, e13, e14⟩ := (HD42.out.below h58).s
        have hd8 := Nat.lt_of_lt_of_le hdl5 h58.size
        have HB8 := hid h58
        have HR8 := hid hR8
        have hner := HN5.out.ne
        have hnr2 : ¬ rb = d := hner
        have hnr3 : ¬ d = rb := fun h => hner h.symm
        clear hBL hb0 hO7 s7 g1 g12 y4 h58 hR8 hd6 hx6
        go_wp2
        refine wp_nm fun w9 hw9 => ?_
        obtain ⟨wA, hwA⟩ : ∃ y, y = (((((((w8).setCell ⟨rb, 0, none⟩ (.int .i64 (q1.r))).setCell ⟨rb, 1, none⟩ (.int .i64 (q1.s))).setCell ⟨rb, 2, none⟩ (.int .i64 (q1.t))).setCell ⟨rb, 3, none⟩ (.slice go gn gc)).setCell ⟨rb, 4, none⟩ (.int .i64 (q1.h))).setCell ⟨rb, 5, none⟩ (.int .i64 (q1.m))) := ⟨_, rfl⟩
        have hw9' : w9 = wA.alloc (.cells #[.int .u8 0, .int .i64 (q1.t), .slice po pn pc, .slice dq dn dc, .int .i64 (x)] 34) := by
          rw [hwA]
          exact hw9
        have hkA : KeptBut rb w8 wA := by rw [hwA]; exact setr_kept rb q1 (.slice go gn gc) w8
        have hbA : Blk wA rb 6 (rq4 q1 (.slice go gn gc)) := by rw [hwA]; exact setr_blk HR8.out
        have hszA : wA.heap.size = w8.heap.size := by rw [hwA]; simp
        clear hwA hw9
        have hlr := HN5.out.lr
        have hkL : KeptL l5 (fun x => x = 1) w8 wA := KeptL.of_but hkA hlr
        have hA1 : ∀ x : Nat, x = 1 → 0 < x ∧ x < 10 := fun x hx => by omega
        have hFA := (HFF.out.below HB8.out).keptL hkL hA1
        have hGA := (HGG.out.below HB8.out).keptL hkL hA1
        have hIA := (HIP.out.below HB8.out).keptL hkL hA1
        have hJA := (HID.out.below HB8.out).keptL hkL hA1
        have hDA := (HD42.out.below HB8.out).kept hkA hnr3
        have hx8 := Nat.lt_of_lt_of_le hxl5 HB8.out.size
        have hxA : xb < wA.heap.size := by rw [hszA]; exact hx8
        have hxk : ∀ k, wA.cell? ⟨xb, k, none⟩ = w5.cell? ⟨xb, k, none⟩ := fun k => (World.cell?_of_block (hkA.block xb hx8 (by omega))).trans (World.cell?_of_block (HB8.out.block xb hxl5))
        have PA := (HP5.out.below HB8.out).kept1 hkA hlr hnr3 hrw
        have hO9 : OPX wA w9 (.slice (some ⟨w8.heap.size, 0, none⟩) 1 1) ⟨0, q1.t, x, .slice po pn pc, .slice dq dn dc, path, done⟩ 0 := by
          rw [← hszA]
          exact OPX.start ⟨0, q1.t, x, .slice po pn pc, .slice dq dn dc, path, done⟩ hw9'
        have HGA := hid hGA
        have HIA := hid hIA
        have HJA := hid hJA
        have HPA := hid PA
        have HBA := hid hbA
        have HLR := hid hlr
        refine tm_loop wA w9 l5 d fb xb i cC cD cE X.F q1 (.slice go gn gc) (.slice po pn pc) (.slice dq dn dc) _ 0 q1.t x 4000000000 path done ⟨0, q1.t, x, .slice po pn pc, .slice dq dn dc, path, done⟩ hDA hFA hIA hJA hO9 hxA ((hxk 3).trans x3) ((hxk 4).trans x4) ((hxk 5).trans x5) (by rw [HPN.out]; omega) (by rw [HDN.out.1]; exact HGL.out) (by omega) (by omega) (fun y hy => by have := HDN.out.2 y hy; omega) (by omega) (by omega) (by omega) (by omega) _ _ _ _ _ _ _ _ _ _ _ _ _ _ _ _ _ _ _ _ _ _ _ _ _ _ _ _ _ _ _ _ _ _ _ _ _ _ _ _ _ _ _ _ _ _ _ _ _ _ _ _ _ _ _ _ _ _ _ _ _ _ _ _ _ _ _ _ _ _ _ _ _ _ _ _ _ _ _ _ _ _ _ _ _ _ _ _ _ _ _ _ _ _ _ _ _ _ _ _ _ _ _ _ _ _ _ _ _ _ _ _ _ _ _ _ _ _ _ _ _ _ _ _ _ _ _ _ _ _ _ _ _ _ _ _ _ _ _ _ _ _ _ _ _ _ _ _ _ _ _ _ _ _ _ _ _ _ _ _ _ _ _ _ _ _ _ _ _ _ _ _ _ _ _ _ _ _ _ _ _ _ _ _ _ _ _ _ _ _ _ _ _ _ _ _ _ _ ?_
        intro aL wB hE
        obtain ⟨v10, hO10, hE⟩ := hE
        obtain ⟨UTM, hE⟩ := hE
        obtain rfl := hE
        have hPG : PlG wA l5 ⟨0, q1.t, x, .slice po pn pc, .slice dq dn dc, path, done⟩ := ⟨HIA.out, HJA.out, by rw [HPN.out]; omega, by simp only; omega, fun y hy => by have := HDN.out.2 y hy; omega⟩
        obtain ⟨l10, L10, hl10, hPn10, hL10⟩ := hO10.pn (D := D') (by omega) hPG HBA.out HLR.out HN5.out.ne HPA.out.dk.b.lt HGA.out HQI.out HOK.out
        obtain ⟨vo10, vc10, hv10⟩ := hPn10.val
        subst hv10
        have HP10 := hid ((HPA.out.relab hl10).below hO10.bl)
        have HN10 := hid hPn10
        clear hPn10 hO10 hPG hl10 hL10 hDA hFA hIA hJA hGA hO9 hxA hxk PA hbA hlr hkL hA1 hkA hszA hw9' x3 x4 x5 r0 r1 r2 r3 r4 r5 z0 z1 z2 z3 z4 z5 hr8 e0 e4 e5 e6 e7 e8 e9 e10 e11 e12 e13 e14 hd8 hx8 HN5 HP5 HR8
        go_wp2
        cases hW9 : D'.W with
        | none =>
          have htv : m5.tv = .pointer none := by
            have := HP10.out.dk.wd
            rw [hW9] at this
            exact this.2.1
          have d1 : wB.cell? ⟨d, 1, none⟩ = some (.pointer none) := by
            rw [HP10.out.dk.b.is 1 (by omega)]
            show some m5.tv = _
            rw [htv]
          have hd9 := HP10.out.dk.b.lt
          clear htv hW9
          first | with_reducible refine wp_region_ext2 (by kernel_rfl) (by kernel_rfl) ?_ | refine wp_region_ext (by kernel_rfl) (by kernel_rfl) ?_
          repeat (go_big_quiet_step (fail))
          refine wpQuiet_nil ?_
          rintro w10 ⟨z, hw2⟩
          have HB10 : Hid (Below wB.heap.size wB w10) := by unfold Hid; rw [hw2]; exact World.below_ext _ _
          clear hw2
          go_wp2
          refine ⟨by first | exact Or.inl rfl | exact Or.inr rfl, _, ⟨l10, m5, D', q1, (.slice go gn gc), L10, HP10.out.below HB10.out, HIV5.out, HCL5.out, HNB5.out, HN10.out.below HB10.out⟩, pickU rfl⟩
        | some Y =>
          have hw := HP10.out.dk.wd
          rw [hW9] at hw
          obtain ⟨fb9, M9, N9, n9, f1, f2, f3, hF9, hT9, hPA9⟩ := hw
          have hwb9 := HP10.out.wb Y hW9
          have d0 : wB.cell? ⟨d, 0, none⟩ = some (.pointer (some ⟨fb9, 0, none⟩)) := by
            rw [HP10.out.dk.b.is 0 (by omega)]
            show some m5.fv = _
            rw [f1]
          have d1 : wB.cell? ⟨d, 1, none⟩ = some (.pointer (some ⟨M9.t, 0, none⟩)) := by
            rw [HP10.out.dk.b.is 1 (by omega)]
            show some m5.tv = _
            rw [f2]
          have d2 : wB.cell? ⟨d, 2, none⟩ = some (.pointer (some ⟨N9.p, 0, none⟩)) := by
            rw [HP10.out.dk.b.is 2 (by omega)]
            show some m5.pv = _
            rw [f3]
          have hd9 := HP10.out.dk.b.lt
          have t2 : wB.cell? ⟨rb, 2, none⟩ = some (.int .i64 (q1.t)) := HN10.out.rq.is 2 (by omega)
          have hr9 := HN10.out.rq.lt
          have HRC : Hid (L10 ≠ [] → (Y.T.base : Int) ≤ q1.t → rcode Y.F Y.T q1 = 0) := fun h1 h2 => by
            obtain ⟨X1, hX1, T0, hT0, hb0⟩ := HN10.out.ok h1
            obtain rfl : Y = X1 := Option.some.inj (hW9.symm.trans hX1)
            exact rcode_slid hT0 hb0 h2
          have BA : Hid (∀ w', Below wB.heap.size wB w' → Calls Try.prog 44 #[.pointer (some ⟨M9.t, 0, none⟩)] w' fun e w'' => e = .returned (.int .i64 (Y.T.base)) ∧ w'' = w') := fun w' h => base_any M9 Y.T l10 w' (hT9.below h)
          have HIY := hid (HIV5.out Y hW9)
          have HCY := hid (HCL5.out Y hW9)
          have HWB9 := hid hwb9
          have HF9 := hid hF9
          have HT9 := hid hT9
          have HPA9 := hid hPA9
          have hqi := HN10.out.i.t
          unfold I64 at hqi
          clear f1 f2 f3 hF9 hT9 hPA9 hwb9 hW9
          by_cases hbt : q1.t < (Y.T.base : Int)
          · have db : decide (q1.t < (Y.T.base : Int)) = true := by simp [hbt]
            first | with_reducible refine wp_region_ext2 (by kernel_rfl) (by kernel_rfl) ?_ | refine wp_region_ext (by kernel_rfl) (by kernel_rfl) ?_
            repeat (go_big_quiet_step ((go_at_call 44; exact Calls.ext_of_same (BA.out _ (by (repeat (first | with_reducible exact Below.rf _ | with_reducible exact World.below_ext _ _ | with_reducible refine Below.ex ?_ _ | with_reducible refine Below.al ?_ _ | with_reducible refine Below.setCell ?_ (by simp) _ | with_reducible refine Below.drew ?_)))))))
            refine wpQuiet_nil ?_
            rintro w10 ⟨z, hw2⟩
            have HB10 : Hid (Below wB.heap.size wB w10) := by unfold Hid; rw [hw2]; exact World.below_ext _ _
            clear hw2
            go_wp2
            refine ⟨by first | exact Or.inl rfl | exact Or.inr rfl, _, ⟨l10, m5, D', q1, (.slice go gn gc), L10, HP10.out.below HB10.out, HIV5.out, HCL5.out, HNB5.out, HN10.out.below HB10.out⟩, pickU rfl⟩
          · have db : decide (q1.t < (Y.T.base : Int)) = false := by simp; omega
            first | with_reducible refine wp_region_ext2 (by kernel_rfl) (by kernel_rfl) ?_ | refine wp_region_ext (by kernel_rfl) (by kernel_rfl) ?_
            repeat (go_big_quiet_step ((go_at_call 44; exact Calls.ext_of_same (BA.out _ (by (repeat (first | with_reducible exact Below.rf _ | with_reducible exact World.below_ext _ _ | with_reducible refine Below.ex ?_ _ | with_reducible refine Below.al ?_ _ | with_reducible refine Below.setCell ?_ (by simp) _ | with_reducible refine Below.drew ?_)))))))
            refine wpQuiet_nil ?_
            rintro w10 ⟨z, hw2⟩
            have hb10 : Below wB.heap.size wB w10 := by rw [hw2]; exact World.below_ext _ _
            clear hw2
            have g0 := (World.cell?_of_block (hb10.block d hd9)).trans d0
            have g1 := (World.cell?_of_block (hb10.block d hd9)).trans d1
            have hd10 := Nat.lt_of_lt_of_le hd9 hb10.size
            have HB10 := hid hb10
            clear d0 d1 t2 hr9 hb10
            go_wp2
            first | with_reducible refine wp_region_tail_ext2 9 (by kernel_rfl) (by kernel_rfl) ?_ | refine wp_region_tail_ext 9 (by kernel_rfl) (by kernel_rfl) ?_
            simp only [List.take_succ_cons, List.take_zero, List.drop_succ_cons, List.drop_zero]
            repeat (go_big_quiet_step (fail))
            refine wpQuiet_nil ?_
            rintro _ ⟨z, rfl⟩
            refine wpl_nm fun w11 hw11 => ?_
            have hb11 : Below w10.heap.size w10 w11 := by rw [hw11]; exact World.below_ext _ _
            clear hw11
            go_wp2
            refine wp_nm fun w12 hw12 => ?_
            have hb12 : Below w11.heap.size w11 w12 := by rw [hw12]; (repeat (first | with_reducible exact Below.rf _ | with_reducible exact World.below_ext _ _ | with_reducible refine Below.ex ?_ _ | with_reducible refine Below.al ?_ _ | with_reducible refine Below.setCell ?_ (by simp) _ | with_reducible refine Below.drew ?_))
            have hmo : MoAt w12 w11.heap.size fb9 M9.t := by
              rw [hw12]
              exact ⟨by simp [go_sem, ↓IntWalk.iteOmega], by simp [go_sem, ↓IntWalk.iteOmega], by simp <;> omega⟩
            have hb9 : Below wB.heap.size wB w12 := HB10.out.trans ((hb11.trans (hb12.mono hb11.size)).mono HB10.out.size)
            have HN12 := hid (HN10.out.below hb9)
            have HP12 := hid (HP10.out.below hb9)
            refine pl_loop w12 l10 d rb w11.heap.size fb9 n9 _ Y.F Y.T M9 N9 Y.S D' q1 (.slice go gn gc) _ L10 HN12.out (HF9.out.below hb9) (HT9.out.below hb9) (HPA9.out.below hb9) hmo ((World.cell?_of_block (hb9.block d hd9)).trans d2) HP12.out.dk.b.lt HIY.out.2 HCY.out HWB9.out.nr HWB9.out.nc (fun h => HRC.out h (by omega)) rfl _ _ _ _ _ _ _ _ _ _ _ _ _ _ _ _ _ _ _ _ _ _ _ _ _ _ _ _ _ _ _ _ _ _ _ _ _ _ _ _ _ _ _ _ _ _ _ _ _ _ _ _ _ _ _ _ _ _ _ _ _ _ _ _ _ _ _ _ _ _ _ _ _ _ _ _ _ _ _ _ _ _ _ _ _ _ _ _ _ _ _ _ _ _ _ _ _ _ _ _ _ _ _ _ _ _ _ _ _ _ _ _ _ _ _ _ _ _ _ _ _ _ _ _ _ _ _ _ _ _ _ _ _ _ _ _ _ _ _ _ _ _ _ _ _ _ _ _ _ _ _ _ _ _ _ _ _ _ _ _ _ _ _ _ _ _ _ _ _ _ _ _ _ _ _ _ _ _ _ _ _ _ _ _ _ _ _ _ _ _ _ _ _ _ _ _ _ ?_
            intro aL w13 hE
            obtain ⟨hBL, hE⟩ := hE
            obtain ⟨UPL, hE⟩ := hE
            obtain rfl := hE
            have HB13 := hid hBL
            clear hBL hmo hb12 hb11 hb9 hw12
            go_wp2
            refine ⟨by first | exact Or.inl rfl | exact Or.inr rfl, _, ⟨l10, m5, D', q1, (.slice go gn gc), L10, HP12.out.below HB13.out, HIV5.out, HCL5.out, HNB5.out, HN12.out.below HB13.out⟩, pickU rfl⟩
        --END M
      · --BEGIN U
        have dc : (D'.pl.c == 0) = false := by simp [hc]
        go_wp2
        cases hW9 : D'.W with
        | none =>
          have htv : m5.tv = .pointer none := by
            have := HP5.out.dk.wd
            rw [hW9] at this
            exact this.2.1
          have d1 : w5.cell? ⟨d, 1, none⟩ = some (.pointer none) := by
            rw [HP5.out.dk.b.is 1 (by omega)]
            show some m5.tv = _
            rw [htv]
          have hd9 := HP5.out.dk.b.lt
          clear htv hW9
          first | with_reducible refine wp_region_ext2 (by kernel_rfl) (by kernel_rfl) ?_ | refine wp_region_ext (by kernel_rfl) (by kernel_rfl) ?_
          repeat (go_big_quiet_step (fail))
          refine wpQuiet_nil ?_
          rintro w10 ⟨z, hw2⟩
          have HB10 : Hid (Below w5.heap.size w5 w10) := by unfold Hid; rw [hw2]; exact World.below_ext _ _
          clear hw2
          go_wp2
          refine ⟨by first | exact Or.inl rfl | exact Or.inr rfl, _, ⟨l5, m5, D', q, gv, L, HP5.out.below HB10.out, HIV5.out, HCL5.out, HNB5.out, HN5.out.below HB10.out⟩, pickU rfl⟩
        | some Y =>
          have hw := HP5.out.dk.wd
          rw [hW9] at hw
          obtain ⟨fb9, M9, N9, n9, f1, f2, f3, hF9, hT9, hPA9⟩ := hw
          have hwb9 := HP5.out.wb Y hW9
          have d0 : w5.cell? ⟨d, 0, none⟩ = some (.pointer (some ⟨fb9, 0, none⟩)) := by
            rw [HP5.out.dk.b.is 0 (by omega)]
            show some m5.fv = _
            rw [f1]
          have d1 : w5.cell? ⟨d, 1, none⟩ = some (.pointer (some ⟨M9.t, 0, none⟩)) := by
            rw [HP5.out.dk.b.is 1 (by omega)]
            show some m5.tv = _
            rw [f2]
          have d2 : w5.cell? ⟨d, 2, none⟩ = some (.pointer (some ⟨N9.p, 0, none⟩)) := by
            rw [HP5.out.dk.b.is 2 (by omega)]
            show some m5.pv = _
            rw [f3]
          have hd9 := HP5.out.dk.b.lt
          have t2 : w5.cell? ⟨rb, 2, none⟩ = some (.int .i64 (q.t)) := HN5.out.rq.is 2 (by omega)
          have hr9 := HN5.out.rq.lt
          have HRC : Hid (L ≠ [] → (Y.T.base : Int) ≤ q.t → rcode Y.F Y.T q = 0) := fun h1 h2 => by
            obtain ⟨X1, hX1, T0, hT0, hb0⟩ := HN5.out.ok h1
            obtain rfl : Y = X1 := Option.some.inj (hW9.symm.trans hX1)
            exact rcode_slid hT0 hb0 h2
          have BA : Hid (∀ w', Below w5.heap.size w5 w' → Calls Try.prog 44 #[.pointer (some ⟨M9.t, 0, none⟩)] w' fun e w'' => e = .returned (.int .i64 (Y.T.base)) ∧ w'' = w') := fun w' h => base_any M9 Y.T l5 w' (hT9.below h)
          have HIY := hid (HIV5.out Y hW9)
          have HCY := hid (HCL5.out Y hW9)
          have HWB9 := hid hwb9
          have HF9 := hid hF9
          have HT9 := hid hT9
          have HPA9 := hid hPA9
          have hqi := HN5.out.i.t
          unfold I64 at hqi
          clear f1 f2 f3 hF9 hT9 hPA9 hwb9 hW9
          by_cases hbt : q.t < (Y.T.base : Int)
          · have db : decide (q.t < (Y.T.base : Int)) = true := by simp [hbt]
            first | with_reducible refine wp_region_ext2 (by kernel_rfl) (by kernel_rfl) ?_ | refine wp_region_ext (by kernel_rfl) (by kernel_rfl) ?_
            repeat (go_big_quiet_step ((go_at_call 44; exact Calls.ext_of_same (BA.out _ (by (repeat (first | with_reducible exact Below.rf _ | with_reducible exact World.below_ext _ _ | with_reducible refine Below.ex ?_ _ | with_reducible refine Below.al ?_ _ | with_reducible refine Below.setCell ?_ (by simp) _ | with_reducible refine Below.drew ?_)))))))
            refine wpQuiet_nil ?_
            rintro w10 ⟨z, hw2⟩
            have HB10 : Hid (Below w5.heap.size w5 w10) := by unfold Hid; rw [hw2]; exact World.below_ext _ _
            clear hw2
            go_wp2
            refine ⟨by first | exact Or.inl rfl | exact Or.inr rfl, _, ⟨l5, m5, D', q, gv, L, HP5.out.below HB10.out, HIV5.out, HCL5.out, HNB5.out, HN5.out.below HB10.out⟩, pickU rfl⟩
          · have db : decide (q.t < (Y.T.base : Int)) = false := by simp; omega
            first | with_reducible refine wp_region_ext2 (by kernel_rfl) (by kernel_rfl) ?_ | refine wp_region_ext (by kernel_rfl) (by kernel_rfl) ?_
            repeat (go_big_quiet_step ((go_at_call 44; exact Calls.ext_of_same (BA.out _ (by (repeat (first | with_reducible exact Below.rf _ | with_reducible exact World.below_ext _ _ | with_reducible refine Below.ex ?_ _ | with_reducible refine Below.al ?_ _ | with_reducible refine Below.setCell ?_ (by simp) _ | with_reducible refine Below.drew ?_)))))))
            refine wpQuiet_nil ?_
            rintro w10 ⟨z, hw2⟩
            have hb10 : Below w5.heap.size w5 w10 := by rw [hw2]; exact World.below_ext _ _
            clear hw2
            have g0 := (World.cell?_of_block (hb10.block d hd9)).trans d0
            have g1 := (World.cell?_of_block (hb10.block d hd9)).trans d1
            have hd10 := Nat.lt_of_lt_of_le hd9 hb10.size
            have HB10 := hid hb10
            clear d0 d1 t2 hr9 hb10
            go_wp2
            first | with_reducible refine wp_region_tail_ext2 9 (by kernel_rfl) (by kernel_rfl) ?_ | refine wp_region_tail_ext 9 (by kernel_rfl) (by kernel_rfl) ?_
            simp only [List.take_succ_cons, List.take_zero, List.drop_succ_cons, List.drop_zero]
            repeat (go_big_quiet_step (fail))
            refine wpQuiet_nil ?_
            rintro _ ⟨z, rfl⟩
            refine wpl_nm fun w11 hw11 => ?_
            have hb11 : Below w10.heap.size w10 w11 := by rw [hw11]; exact World.below_ext _ _
            clear hw11
            go_wp2
            refine wp_nm fun w12 hw12 => ?_
            have hb12 : Below w11.heap.size w11 w12 := by rw [hw12]; (repeat (first | with_reducible exact Below.rf _ | with_reducible exact World.below_ext _ _ | with_reducible refine Below.ex ?_ _ | with_reducible refine Below.al ?_ _ | with_reducible refine Below.setCell ?_ (by simp) _ | with_reducible refine Below.drew ?_))
            have hmo : MoAt w12 w11.heap.size fb9 M9.t := by
              rw [hw12]
              exact ⟨by simp [go_sem, ↓IntWalk.iteOmega], by simp [go_sem, ↓IntWalk.iteOmega], by simp <;> omega⟩
            have hb9 : Below w5.heap.size w5 w12 := HB10.out.trans ((hb11.trans (hb12.mono hb11.size)).mono HB10.out.size)
            have HN12 := hid (HN5.out.below hb9)
            have HP12 := hid (HP5.out.below hb9)
            refine pl_loop w12 l5 d rb w11.heap.size fb9 n9 _ Y.F Y.T M9 N9 Y.S D' q gv _ L HN12.out (HF9.out.below hb9) (HT9.out.below hb9) (HPA9.out.below hb9) hmo ((World.cell?_of_block (hb9.block d hd9)).trans d2) HP12.out.dk.b.lt HIY.out.2 HCY.out HWB9.out.nr HWB9.out.nc (fun h => HRC.out h (by omega)) HLN.out _ _ _ _ _ _ _ _ _ _ _ _ _ _ _ _ _ _ _ _ _ _ _ _ _ _ _ _ _ _ _ _ _ _ _ _ _ _ _ _ _ _ _ _ _ _ _ _ _ _ _ _ _ _ _ _ _ _ _ _ _ _ _ _ _ _ _ _ _ _ _ _ _ _ _ _ _ _ _ _ _ _ _ _ _ _ _ _ _ _ _ _ _ _ _ _ _ _ _ _ _ _ _ _ _ _ _ _ _ _ _ _ _ _ _ _ _ _ _ _ _ _ _ _ _ _ _ _ _ _ _ _ _ _ _ _ _ _ _ _ _ _ _ _ _ _ _ _ _ _ _ _ _ _ _ _ _ _ _ _ _ _ _ _ _ _ _ _ _ _ _ _ _ _ _ _ _ _ _ _ _ _ _ _ _ _ _ _ _ _ _ _ _ _ _ _ _ ?_
            intro aL w13 hE
            obtain ⟨hBL, hE⟩ := hE
            obtain ⟨UPL, hE⟩ := hE
            obtain rfl := hE
            have HB13 := hid hBL
            clear hBL hmo hb12 hb11 hb9 hw12
            go_wp2
            refine ⟨by first | exact Or.inl rfl | exact Or.inr rfl, _, ⟨l5, m5, D', q, gv, L, HP12.out.below HB13.out, HIV5.out, HCL5.out, HNB5.out, HN12.out.below HB13.out⟩, pickU rfl⟩
        --END U
    · --BEGIN V
      rw [Bool.not_eq_true] at ha
      rw [ha] at d3
      go_wp2
      cases hW9 : D'.W with
      | none =>
        have htv : m5.tv = .pointer none := by
          have := HP5.out.dk.wd
          rw [hW9] at this
          exact this.2.1
        have d1 : w5.cell? ⟨d, 1, none⟩ = some (.pointer none) := by
          rw [HP5.out.dk.b.is 1 (by omega)]
          show some m5.tv = _
          rw [htv]
        have hd9 := HP5.out.dk.b.lt
        clear htv hW9
        first | with_reducible refine wp_region_ext2 (by kernel_rfl) (by kernel_rfl) ?_ | refine wp_region_ext (by kernel_rfl) (by kernel_rfl) ?_
        repeat (go_big_quiet_step (fail))
        refine wpQuiet_nil ?_
        rintro w10 ⟨z, hw2⟩
        have HB10 : Hid (Below w5.heap.size w5 w10) := by unfold Hid; rw [hw2]; exact World.below_ext _ _
        clear hw2
        go_wp2
        refine ⟨by first | exact Or.inl rfl | exact Or.inr rfl, _, ⟨l5, m5, D', q, gv, L, HP5.out.below HB10.out, HIV5.out, HCL5.out, HNB5.out, HN5.out.below HB10.out⟩, pickU rfl⟩
      | some Y =>
        have hw := HP5.out.dk.wd
        rw [hW9] at hw
        obtain ⟨fb9, M9, N9, n9, f1, f2, f3, hF9, hT9, hPA9⟩ := hw
        have hwb9 := HP5.out.wb Y hW9
        have d0 : w5.cell? ⟨d, 0, none⟩ = some (.pointer (some ⟨fb9, 0, none⟩)) := by
          rw [HP5.out.dk.b.is 0 (by omega)]
          show some m5.fv = _
          rw [f1]
        have d1 : w5.cell? ⟨d, 1, none⟩ = some (.pointer (some ⟨M9.t, 0, none⟩)) := by
          rw [HP5.out.dk.b.is 1 (by omega)]
          show some m5.tv = _
          rw [f2]
        have d2 : w5.cell? ⟨d, 2, none⟩ = some (.pointer (some ⟨N9.p, 0, none⟩)) := by
          rw [HP5.out.dk.b.is 2 (by omega)]
          show some m5.pv = _
          rw [f3]
        have hd9 := HP5.out.dk.b.lt
        have t2 : w5.cell? ⟨rb, 2, none⟩ = some (.int .i64 (q.t)) := HN5.out.rq.is 2 (by omega)
        have hr9 := HN5.out.rq.lt
        have HRC : Hid (L ≠ [] → (Y.T.base : Int) ≤ q.t → rcode Y.F Y.T q = 0) := fun h1 h2 => by
          obtain ⟨X1, hX1, T0, hT0, hb0⟩ := HN5.out.ok h1
          obtain rfl : Y = X1 := Option.some.inj (hW9.symm.trans hX1)
          exact rcode_slid hT0 hb0 h2
        have BA : Hid (∀ w', Below w5.heap.size w5 w' → Calls Try.prog 44 #[.pointer (some ⟨M9.t, 0, none⟩)] w' fun e w'' => e = .returned (.int .i64 (Y.T.base)) ∧ w'' = w') := fun w' h => base_any M9 Y.T l5 w' (hT9.below h)
        have HIY := hid (HIV5.out Y hW9)
        have HCY := hid (HCL5.out Y hW9)
        have HWB9 := hid hwb9
        have HF9 := hid hF9
        have HT9 := hid hT9
        have HPA9 := hid hPA9
        have hqi := HN5.out.i.t
        unfold I64 at hqi
        clear f1 f2 f3 hF9 hT9 hPA9 hwb9 hW9
        by_cases hbt : q.t < (Y.T.base : Int)
        · have db : decide (q.t < (Y.T.base : Int)) = true := by simp [hbt]
          first | with_reducible refine wp_region_ext2 (by kernel_rfl) (by kernel_rfl) ?_ | refine wp_region_ext (by kernel_rfl) (by kernel_rfl) ?_
          repeat (go_big_quiet_step ((go_at_call 44; exact Calls.ext_of_same (BA.out _ (by (repeat (first | with_reducible exact Below.rf _ | with_reducible exact World.below_ext _ _ | with_reducible refine Below.ex ?_ _ | with_reducible refine Below.al ?_ _ | with_reducible refine Below.setCell ?_ (by simp) _ | with_reducible refine Below.drew ?_)))))))
          refine wpQuiet_nil ?_
          rintro w10 ⟨z, hw2⟩
          have HB10 : Hid (Below w5.heap.size w5 w10) := by unfold Hid; rw [hw2]; exact World.below_ext _ _
          clear hw2
          go_wp2
          refine ⟨by first | exact Or.inl rfl | exact Or.inr rfl, _, ⟨l5, m5, D', q, gv, L, HP5.out.below HB10.out, HIV5.out, HCL5.out, HNB5.out, HN5.out.below HB10.out⟩, pickU rfl⟩
        · have db : decide (q.t < (Y.T.base : Int)) = false := by simp; omega
          first | with_reducible refine wp_region_ext2 (by kernel_rfl) (by kernel_rfl) ?_ | refine wp_region_ext (by kernel_rfl) (by kernel_rfl) ?_
          repeat (go_big_quiet_step ((go_at_call 44; exact Calls.ext_of_same (BA.out _ (by (repeat (first | with_reducible exact Below.rf _ | with_reducible exact World.below_ext _ _ | with_reducible refine Below.ex ?_ _ | with_reducible refine Below.al ?_ _ | with_reducible refine Below.setCell ?_ (by simp) _ | with_reducible refine Below.drew ?_)))))))
          refine wpQuiet_nil ?_
          rintro w10 ⟨z, hw2⟩
          have hb10 : Below w5.heap.size w5 w10 := by rw [hw2]; exact World.below_ext _ _
          clear hw2
          have g0 := (World.cell?_of_block (hb10.block d hd9)).trans d0
          have g1 := (World.cell?_of_block (hb10.block d hd9)).trans d1
          have hd10 := Nat.lt_of_lt_of_le hd9 hb10.size
          have HB10 := hid hb10
          clear d0 d1 t2 hr9 hb10
          go_wp2
          first | with_reducible refine wp_region_tail_ext2 9 (by kernel_rfl) (by kernel_rfl) ?_ | refine wp_region_tail_ext 9 (by kernel_rfl) (by kernel_rfl) ?_
          simp only [List.take_succ_cons, List.take_zero, List.drop_succ_cons, List.drop_zero]
          repeat (go_big_quiet_step (fail))
          refine wpQuiet_nil ?_
          rintro _ ⟨z, rfl⟩
          refine wpl_nm fun w11 hw11 => ?_
          have hb11 : Below w10.heap.size w10 w11 := by rw [hw11]; exact World.below_ext _ _
          clear hw11
          go_wp2
          refine wp_nm fun w12 hw12 => ?_
          have hb12 : Below w11.heap.size w11 w12 := by rw [hw12]; (repeat (first | with_reducible exact Below.rf _ | with_reducible exact World.below_ext _ _ | with_reducible refine Below.ex ?_ _ | with_reducible refine Below.al ?_ _ | with_reducible refine Below.setCell ?_ (by simp) _ | with_reducible refine Below.drew ?_))
          have hmo : MoAt w12 w11.heap.size fb9 M9.t := by
            rw [hw12]
            exact ⟨by simp [go_sem, ↓IntWalk.iteOmega], by simp [go_sem, ↓IntWalk.iteOmega], by simp <;> omega⟩
          have hb9 : Below w5.heap.size w5 w12 := HB10.out.trans ((hb11.trans (hb12.mono hb11.size)).mono HB10.out.size)
          have HN12 := hid (HN5.out.below hb9)
          have HP12 := hid (HP5.out.below hb9)
          refine pl_loop w12 l5 d rb w11.heap.size fb9 n9 _ Y.F Y.T M9 N9 Y.S D' q gv _ L HN12.out (HF9.out.below hb9) (HT9.out.below hb9) (HPA9.out.below hb9) hmo ((World.cell?_of_block (hb9.block d hd9)).trans d2) HP12.out.dk.b.lt HIY.out.2 HCY.out HWB9.out.nr HWB9.out.nc (fun h => HRC.out h (by omega)) HLN.out _ _ _ _ _ _ _ _ _ _ _ _ _ _ _ _ _ _ _ _ _ _ _ _ _ _ _ _ _ _ _ _ _ _ _ _ _ _ _ _ _ _ _ _ _ _ _ _ _ _ _ _ _ _ _ _ _ _ _ _ _ _ _ _ _ _ _ _ _ _ _ _ _ _ _ _ _ _ _ _ _ _ _ _ _ _ _ _ _ _ _ _ _ _ _ _ _ _ _ _ _ _ _ _ _ _ _ _ _ _ _ _ _ _ _ _ _ _ _ _ _ _ _ _ _ _ _ _ _ _ _ _ _ _ _ _ _ _ _ _ _ _ _ _ _ _ _ _ _ _ _ _ _ _ _ _ _ _ _ _ _ _ _ _ _ _ _ _ _ _ _ _ _ _ _ _ _ _ _ _ _ _ _ _ _ _ _ _ _ _ _ _ _ _ _ _ _ ?_
          intro aL w13 hE
          obtain ⟨hBL, hE⟩ := hE
          obtain ⟨UPL, hE⟩ := hE
          obtain rfl := hE
          have HB13 := hid hBL
          clear hBL hmo hb12 hb11 hb9 hw12
          go_wp2
          refine ⟨by first | exact Or.inl rfl | exact Or.inr rfl, _, ⟨l5, m5, D', q, gv, L, HP12.out.below HB13.out, HIV5.out, HCL5.out, HNB5.out, HN12.out.below HB13.out⟩, pickU rfl⟩
      --END V
end Go.Proofs.Qxb6500716a
