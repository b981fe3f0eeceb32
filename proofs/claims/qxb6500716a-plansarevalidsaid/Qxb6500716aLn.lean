/-
  PlansAreValid: a round of the law, cut out.
-/
import Derived.Test.Qxb6500716aLa
import Derived.Test.Qxb6500716aLi
import Derived.Test.Qxb6500716aVb
namespace Go.Proofs.Qxb6500716a
open Go.RowKit Go.Maps
set_option linter.unusedSimpArgs false
set_option linter.unusedVariables false
set_option maxRecDepth 20000
set_option maxHeartbeats 4000000
def e4R (d : Nat) (q : Rq) (gv pv : Value) (w : World) (a a' : Act) (w3 : World) : Prop :=
  ∃ (rb : Nat), w.heap.size ≤ rb ∧ Below w.heap.size w w3 ∧ Blk w3 rb 6 (rq4 q gv) ∧
    a' = ((((((((((a.put (some 57) (.pointer (some ⟨d, 0, none⟩))).put (some 58) (.pointer (some ⟨d, 0, none⟩))).put (some 59) (.pointer (some ⟨d, 4, none⟩))).put (some 60) (.agg #[.int .i64 ((q).r), .int .i64 ((q).s), .int .i64 ((q).t), gv, .int .i64 ((q).h), .int .i64 ((q).m)])).put (some 61) (.pointer (some ⟨d, 0, none⟩))).put (some 62) (.pointer (some ⟨d, 0, none⟩))).put (some 63) (.pointer (some ⟨d, 10, none⟩))).put (some 64) (.pointer (some ⟨d, 12, none⟩))).put (some 65) pv).put (some 7) (.pointer (some ⟨rb, 0, none⟩))).put (some 8) pv
/-- What a round leaves. -/
def rnd4 (sb so n cap d i : Nat) (w : World) (Fr : Act → Prop) (e : Exit) (a' : Act) (w'' : World) : Prop :=
  (e = .normal ∨ e = .exit 1) ∧ (∃ (lab : Nat → Nat) (m : DM) (D : Dk), Play w w'' lab d (i + 1) m D ∧ D.inv) ∧ Fr a'
set_option maxRecDepth 1000000 in
set_option maxHeartbeats 400000000 in
theorem body4 (sb so n cap d i : Nat) (o : Nat → Opr) (lao : Nat → Option Addr) (lcap : Nat → Nat) (w wr : World) (lab : Nat → Nat) (m : DM) (D : Dk) (hS : Scr w sb so n o lao lcap) (hin : i < n) (hn1 : n ≤ 65536) (hn2 : ∀ i, i < n → (o i).l.length ≤ 65536) (hdw : w.heap.size ≤ d) (hP : Play w wr lab d i m D) (hinv : D.inv) (x0 x1 x2 x4 x5 x6 x7 x8 x9 x10 x11 x12 x13 x14 x15 x16 x17 x18 x19 x20 x21 x22 x23 x24 x26 x28 x29 x30 x31 x32 x33 x34 x35 x36 x37 x38 x39 x40 x41 x42 x43 x44 x45 x46 x47 x48 x49 x50 x51 x52 x53 x54 x55 x56 x57 x58 x59 x60 x61 x62 x63 x64 x65 x66 x67 x68 x69 x70 x71 x72 x73 x74 x75 x76 x77 x78 x79 x80 x81 x82 x83 x84 x85 x86 x87 x88 x89 x90 x91 x92 x93 x94 x95 x96 x97 x98 x99 x100 x101 x102 x103 x104 x105 x106 x107 x108 x109 x110 x111 x112 x113 x114 x115 x116 x117 x118 x119 x120 x121 x122 x123 x124 x125 x126 x127 x128 x129 x130 x131 x132 x133 x134 x135 x136 x137 x138 x139 x140 x141 x142 x143 x144 x145 x146 x147 x148 x149 x150 x151 x152 x153 x154 x155 x156 x157 x158 x159 x160 x161 x162 x163 x164 x165 x166 x167 x168 x169 x170 x171 x172 x173 x174 x175 x176 x177 x178 x179 x180 x181 x182 x183 x184 x185 x186 x187 x188 x189 x190 x191 x192 x193 x194 x195 x196 x197 x198 x199 x200 x201 x202 x203 x204 x205 x206 x207 x208 x209 x210 x211 x212 x213 x214 x215 x216 x217 x218 x219 x220 x221 x222 x223 x224 x225 x226 x227 x228 x229 x230 x231 x232 x233 x234 x235 x236 x237 x238 x239 x240 x241 x242 x243 x244 x245 x246 x247 x248 x249 x250 x251 x252 x253 x254 x255 x256 x257 x258 x259 x260 x261 x262 x263 x264 x265 x266 x267 x268 x269 x270 x271 x272 x273 x274 x275 x276 x277 : Value) :
    Code.wp Try.prog ((Try.f4.body.bind (findBlock 1)).getD .skip) (rnd4 sb so n cap d i w (fun a' => ∃ UBO : Nat → Value, a' = ⟨List.toArray (x0 :: x1 :: UBO 2 :: .pointer (some ⟨d, 0, none⟩) :: x4 :: UBO 5 :: UBO 6 :: UBO 7 :: UBO 8 :: UBO 9 :: UBO 10 :: UBO 11 :: UBO 12 :: UBO 13 :: x14 :: UBO 15 :: UBO 16 :: UBO 17 :: UBO 18 :: UBO 19 :: x20 :: x21 :: x22 :: x23 :: x24 :: (.slice (some ⟨sb, so, none⟩) n cap) :: x26 :: .int .i64 (i) :: x28 :: UBO 29 :: UBO 30 :: UBO 31 :: UBO 32 :: UBO 33 :: UBO 34 :: UBO 35 :: UBO 36 :: UBO 37 :: UBO 38 :: UBO 39 :: UBO 40 :: UBO 41 :: UBO 42 :: UBO 43 :: UBO 44 :: UBO 45 :: UBO 46 :: UBO 47 :: UBO 48 :: UBO 49 :: UBO 50 :: UBO 51 :: UBO 52 :: UBO 53 :: UBO 54 :: UBO 55 :: UBO 56 :: UBO 57 :: UBO 58 :: UBO 59 :: UBO 60 :: UBO 61 :: UBO 62 :: UBO 63 :: UBO 64 :: UBO 65 :: UBO 66 :: UBO 67 :: UBO 68 :: UBO 69 :: UBO 70 :: UBO 71 :: UBO 72 :: UBO 73 :: UBO 74 :: UBO 75 :: UBO 76 :: UBO 77 :: UBO 78 :: UBO 79 :: UBO 80 :: UBO 81 :: UBO 82 :: UBO 83 :: UBO 84 :: UBO 85 :: UBO 86 :: UBO 87 :: UBO 88 :: UBO 89 :: UBO 90 :: UBO 91 :: UBO 92 :: UBO 93 :: UBO 94 :: UBO 95 :: UBO 96 :: UBO 97 :: UBO 98 :: UBO 99 :: UBO 100 :: UBO 101 :: UBO 102 :: UBO 103 :: UBO 104 :: UBO 105 :: UBO 106 :: UBO 107 :: UBO 108 :: UBO 109 :: UBO 110 :: UBO 111 :: UBO 112 :: UBO 113 :: UBO 114 :: UBO 115 :: UBO 116 :: UBO 117 :: UBO 118 :: UBO 119 :: UBO 120 :: UBO 121 :: UBO 122 :: UBO 123 :: UBO 124 :: UBO 125 :: UBO 126 :: UBO 127 :: UBO 128 :: UBO 129 :: UBO 130 :: UBO 131 :: UBO 132 :: UBO 133 :: UBO 134 :: UBO 135 :: UBO 136 :: UBO 137 :: UBO 138 :: UBO 139 :: UBO 140 :: UBO 141 :: UBO 142 :: UBO 143 :: UBO 144 :: UBO 145 :: UBO 146 :: UBO 147 :: UBO 148 :: UBO 149 :: UBO 150 :: UBO 151 :: UBO 152 :: UBO 153 :: UBO 154 :: UBO 155 :: UBO 156 :: UBO 157 :: UBO 158 :: UBO 159 :: UBO 160 :: UBO 161 :: UBO 162 :: UBO 163 :: UBO 164 :: UBO 165 :: UBO 166 :: UBO 167 :: UBO 168 :: UBO 169 :: UBO 170 :: UBO 171 :: UBO 172 :: UBO 173 :: UBO 174 :: UBO 175 :: UBO 176 :: UBO 177 :: UBO 178 :: UBO 179 :: UBO 180 :: UBO 181 :: UBO 182 :: UBO 183 :: UBO 184 :: UBO 185 :: UBO 186 :: UBO 187 :: UBO 188 :: UBO 189 :: UBO 190 :: UBO 191 :: UBO 192 :: UBO 193 :: UBO 194 :: UBO 195 :: UBO 196 :: UBO 197 :: UBO 198 :: UBO 199 :: UBO 200 :: UBO 201 :: UBO 202 :: UBO 203 :: UBO 204 :: UBO 205 :: UBO 206 :: UBO 207 :: UBO 208 :: UBO 209 :: UBO 210 :: UBO 211 :: UBO 212 :: UBO 213 :: UBO 214 :: UBO 215 :: UBO 216 :: UBO 217 :: UBO 218 :: UBO 219 :: UBO 220 :: UBO 221 :: UBO 222 :: UBO 223 :: UBO 224 :: UBO 225 :: UBO 226 :: UBO 227 :: UBO 228 :: UBO 229 :: UBO 230 :: UBO 231 :: UBO 232 :: UBO 233 :: UBO 234 :: UBO 235 :: UBO 236 :: UBO 237 :: UBO 238 :: UBO 239 :: UBO 240 :: UBO 241 :: UBO 242 :: UBO 243 :: UBO 244 :: UBO 245 :: UBO 246 :: UBO 247 :: UBO 248 :: UBO 249 :: UBO 250 :: UBO 251 :: UBO 252 :: UBO 253 :: UBO 254 :: UBO 255 :: UBO 256 :: UBO 257 :: UBO 258 :: UBO 259 :: UBO 260 :: UBO 261 :: UBO 262 :: UBO 263 :: UBO 264 :: UBO 265 :: UBO 266 :: UBO 267 :: UBO 268 :: UBO 269 :: UBO 270 :: UBO 271 :: UBO 272 :: UBO 273 :: UBO 274 :: UBO 275 :: UBO 276 :: x277 :: []), []⟩)) ⟨List.toArray (x0 :: x1 :: x2 :: .pointer (some ⟨d, 0, none⟩) :: x4 :: x5 :: x6 :: x7 :: x8 :: x9 :: x10 :: x11 :: x12 :: x13 :: x14 :: x15 :: x16 :: x17 :: x18 :: x19 :: x20 :: x21 :: x22 :: x23 :: x24 :: (.slice (some ⟨sb, so, none⟩) n cap) :: x26 :: .int .i64 (i) :: x28 :: x29 :: x30 :: x31 :: x32 :: x33 :: x34 :: x35 :: x36 :: x37 :: x38 :: x39 :: x40 :: x41 :: x42 :: x43 :: x44 :: x45 :: x46 :: x47 :: x48 :: x49 :: x50 :: x51 :: x52 :: x53 :: x54 :: x55 :: x56 :: x57 :: x58 :: x59 :: x60 :: x61 :: x62 :: x63 :: x64 :: x65 :: x66 :: x67 :: x68 :: x69 :: x70 :: x71 :: x72 :: x73 :: x74 :: x75 :: x76 :: x77 :: x78 :: x79 :: x80 :: x81 :: x82 :: x83 :: x84 :: x85 :: x86 :: x87 :: x88 :: x89 :: x90 :: x91 :: x92 :: x93 :: x94 :: x95 :: x96 :: x97 :: x98 :: x99 :: x100 :: x101 :: x102 :: x103 :: x104 :: x105 :: x106 :: x107 :: x108 :: x109 :: x110 :: x111 :: x112 :: x113 :: x114 :: x115 :: x116 :: x117 :: x118 :: x119 :: x120 :: x121 :: x122 :: x123 :: x124 :: x125 :: x126 :: x127 :: x128 :: x129 :: x130 :: x131 :: x132 :: x133 :: x134 :: x135 :: x136 :: x137 :: x138 :: x139 :: x140 :: x141 :: x142 :: x143 :: x144 :: x145 :: x146 :: x147 :: x148 :: x149 :: x150 :: x151 :: x152 :: x153 :: x154 :: x155 :: x156 :: x157 :: x158 :: x159 :: x160 :: x161 :: x162 :: x163 :: x164 :: x165 :: x166 :: x167 :: x168 :: x169 :: x170 :: x171 :: x172 :: x173 :: x174 :: x175 :: x176 :: x177 :: x178 :: x179 :: x180 :: x181 :: x182 :: x183 :: x184 :: x185 :: x186 :: x187 :: x188 :: x189 :: x190 :: x191 :: x192 :: x193 :: x194 :: x195 :: x196 :: x197 :: x198 :: x199 :: x200 :: x201 :: x202 :: x203 :: x204 :: x205 :: x206 :: x207 :: x208 :: x209 :: x210 :: x211 :: x212 :: x213 :: x214 :: x215 :: x216 :: x217 :: x218 :: x219 :: x220 :: x221 :: x222 :: x223 :: x224 :: x225 :: x226 :: x227 :: x228 :: x229 :: x230 :: x231 :: x232 :: x233 :: x234 :: x235 :: x236 :: x237 :: x238 :: x239 :: x240 :: x241 :: x242 :: x243 :: x244 :: x245 :: x246 :: x247 :: x248 :: x249 :: x250 :: x251 :: x252 :: x253 :: x254 :: x255 :: x256 :: x257 :: x258 :: x259 :: x260 :: x261 :: x262 :: x263 :: x264 :: x265 :: x266 :: x267 :: x268 :: x269 :: x270 :: x271 :: x272 :: x273 :: x274 :: x275 :: x276 :: x277 :: []), []⟩ wr := by
  conv => arg 2; whnf
  have HS := hid hS
  have HN2 := hid hn2
  have HINV := hid hinv
  clear hS hn2 hinv
  obtain ⟨c0, c1, c2, c3, c4, c5, c6⟩ := (HS.out.below hP.bl).cells i hin
  have hsb := (HS.out.below hP.bl).hsb
  have d1 : wr.cell? ⟨d, 1, none⟩ = some m.tv := hP.dk.b.is 1 (by omega)
  have hdl := hP.dk.b.lt
  have HP := hid hP
  have hud : ∀ j, j < wr.heap.size → upd lab wr.heap.size 0 j = lab j := fun j hj => upd_ne _ _ (by omega)
  cases hW : D.W with
  | none =>
    --BEGIN N
    have htv : m.tv = .pointer none := by
      have := hP.dk.wd
      rw [hW] at this
      exact this.2.1
    rw [htv] at d1
    have hna := step_none D (o i) hW
    clear hP htv hW
    go_wp2_with (first | (go_at_call 12; refine hold ?_))
    unfold Hid
    refine calls_nm fun w4 hw4 => ?_
    have B4 : Below wr.heap.size wr w4 := by rw [hw4]; (repeat (first | with_reducible exact Below.rf _ | with_reducible exact World.below_ext _ _ | with_reducible refine Below.ex ?_ _ | with_reducible refine Below.al ?_ _ | with_reducible refine Below.setCell ?_ (by simp) _ | with_reducible refine Below.drew ?_))
    have P4 := (HP.out.relab hud).below B4
    clear hw4
    refine (P4.call HS.out hin hn1 (HN2.out i hin)).mono ?_
    rintro e w5 ⟨l5, m5, av, rfl, hD5, hIv, hl5, hk5⟩
    have P5 := P4.next (o i) hD5 hl5 hk5
    have HIV5 := hid (step_inv D (o i) HINV.out P5.fok)
    obtain ⟨D', hD'⟩ : ∃ y, (D.step (o i)).1 = y := ⟨_, rfl⟩
    rw [hD'] at P5 hna HIV5
    have d3 : w5.cell? ⟨d, 3, none⟩ = some (.bool D'.ask) := P5.dk.b.is 3 (by omega)
    rw [hna] at d3
    have hdl5 := P5.dk.b.lt
    have HP5 := hid P5
    clear hIv hD5 hl5 hk5 B4 hud P4 HP c0 c1 c2 c3 c4 c5 c6 hsb hD' d1 hdl hna P5
    go_wp2
    refine ⟨by first | exact Or.inl rfl | exact Or.inr rfl, ⟨l5, m5, D', HP5.out, HIV5.out⟩, pickU rfl⟩
    --END N
  | some X =>
    --BEGIN S
    have hw := hP.dk.wd
    rw [hW] at hw
    obtain ⟨fb0, M0, N0, n0, f1, f2, f3, -, hT2, -⟩ := hw
    rw [f2] at d1
    have HT2 := hid hT2
    have HW := hid hW
    clear hP f1 f2 f3 hT2 hW
    go_wp2_with (first | (go_at_call 19; refine hold ?_))
    unfold Hid
    refine calls_nm fun w3 hw3 => ?_
    have B3 : Below wr.heap.size wr w3 := by rw [hw3]; (repeat (first | with_reducible exact Below.rf _ | with_reducible exact World.below_ext _ _ | with_reducible refine Below.ex ?_ _ | with_reducible refine Below.al ?_ _ | with_reducible refine Below.setCell ?_ (by simp) _ | with_reducible refine Below.drew ?_))
    have X3 : Blk w3 wr.heap.size 7 (ocell (o i) (.slice (lao i) (o i).l.length (lcap i))) := by
      rw [hw3]
      refine ⟨by (simp <;> omega), fun i hi => ?_, fun i hi => by simp [go_sem, ↓IntWalk.iteOmega]⟩
      rcases (by omega : i = 0 ∨ i = 1 ∨ i = 2 ∨ i = 3 ∨ i = 4 ∨ i = 5 ∨ i = 6) with rfl | rfl | rfl | rfl | rfl | rfl | rfl <;> simp [go_sem, ↓IntWalk.iteOmega, ocell]
    have P3 := (HP.out.relab hud).below B3
    have T3 := (HT2.out.relab hud).below B3
    have hd3 := P3.dk.b.lt
    clear hw3
    refine (clone_any M0 X.T _ w3 T3).mono ?_
    rintro e w4 ⟨labc, Mc, rfl, hTc, hlc, hb4⟩
    have hud4 : ∀ j, j < w3.heap.size → (fun b => if b < w3.heap.size then upd lab wr.heap.size 0 b else 1) j = upd lab wr.heap.size 0 j := fun j hj => if_pos hj
    have P4 := (P3.relab hud4).below hb4
    have X4 := X3.below hb4
    have hx4 : (fun b => if b < w3.heap.size then upd lab wr.heap.size 0 b else 1) wr.heap.size = 0 := by
      rw [hud4 _ X3.lt]
      exact upd_at _ _ _
    have hl1 : ∀ j, w3.heap.size ≤ j → (fun b => if b < w3.heap.size then upd lab wr.heap.size 0 b else 1) j = 1 := fun j hj => if_neg (by omega)
    obtain ⟨l4, hl4⟩ : ∃ y, (fun b => if b < w3.heap.size then upd lab wr.heap.size 0 b else 1) = y := ⟨_, rfl⟩
    rw [hl4] at P4 hx4 hl1
    obtain ⟨xb, hxb⟩ : ∃ y, wr.heap.size = y := ⟨_, rfl⟩
    rw [hxb] at X4 hx4 ⊢
    have x0 : w4.cell? ⟨xb, 0, none⟩ = some (.int .i64 ((o i).K)) := X4.is 0 (by omega)
    have x1 : w4.cell? ⟨xb, 1, none⟩ = some (.int .i64 ((o i).A)) := X4.is 1 (by omega)
    have x2 : w4.cell? ⟨xb, 2, none⟩ = some (.int .i64 ((o i).B)) := X4.is 2 (by omega)
    have x3 : w4.cell? ⟨xb, 3, none⟩ = some (.int .i64 ((o i).C)) := X4.is 3 (by omega)
    have x4 : w4.cell? ⟨xb, 4, none⟩ = some (.int .i64 ((o i).D)) := X4.is 4 (by omega)
    have x5 : w4.cell? ⟨xb, 5, none⟩ = some (.int .i64 ((o i).E)) := X4.is 5 (by omega)
    have x6 : w4.cell? ⟨xb, 6, none⟩ = some (.slice (lao i) (o i).l.length (lcap i)) := X4.is 6 (by omega)
    have hxl := X4.lt
    have HP4 := hid P4
    have HX4 := hid X4
    have HTc := hid hTc
    have HWB := hid HP.out.wb
    have HFK := hid HP.out.fok
    have HLC := hid (And.intro hlc hl1)
    clear c0 c1 c2 c3 c4 c5 c6 hsb d1 hdl HP HT2 B3 X3 P3 T3 hud hud4 hl4 hxb P4 X4 hTc hb4 hlc hl1
    go_wp2_with (first | (go_at_call 12; refine hold ?_))
    unfold Hid
    refine (HP4.out.call HS.out hin hn1 (HN2.out i hin)).mono ?_
    rintro e w5 ⟨l5, m5, av, rfl, hD5, hIv, hl5, hk5⟩
    have P5 := HP4.out.next (o i) hD5 hl5 hk5
    have X5 := HX4.out.keptL hk5.k (by rw [hx4]; unfold doL; omega)
    have TC5 : TAt w5 labc Mc X.T := HTc.out.keptL (A := fun x => x = 0) (w' := w5) ⟨hk5.k.os, hk5.k.tape, hk5.k.output, hk5.size, fun k hk hk0 => by
      have h3 : w3.heap.size ≤ k := by
        rcases Nat.lt_or_ge k w3.heap.size with h | h
        · exact absurd (HLC.out.1 k h) hk0
        · exact h
      exact hk5.o k hk (HLC.out.2 k h3) (by omega)⟩ (by omega) (by omega) (by omega)
    have hsf := step_found D (o i) (fun Y hY => ⟨HFK.out Y hY, (HWB.out Y hY).ms⟩)
    have HIV5 := hid (step_inv D (o i) HINV.out P5.fok)
    obtain ⟨D', hD'⟩ : ∃ y, (D.step (o i)).1 = y := ⟨_, rfl⟩
    rw [hD'] at P5 hsf HIV5
    have HTI := hid (HINV.out X HW.out).2
    have HWBX := hid (HWB.out X HW.out)
    clear HINV
    have HP5 := hid P5
    have hdl5 := P5.dk.b.lt
    have hxl5 := X5.lt
    have d3 : w5.cell? ⟨d, 3, none⟩ = some (.bool D'.ask) := P5.dk.b.is 3 (by omega)
    have d10 : w5.cell? ⟨d, 10, none⟩ = some (.int .u8 D'.pl.c) := P5.dk.b.is 10 (by omega)
    clear x0 x1 x2 x3 x4 x5 x6 hxl HP4 HX4 HTc HWB HFK HLC hIv hD5 hl5 hk5 hD' hx4 hd3
    by_cases ha : D'.ask = true
    · rw [ha] at d3
      by_cases hc : D'.pl.c = 0
      · rw [hc] at d10
        obtain ⟨X1, T', S', hX1, hX', hq, hpt, hfd, hkd⟩ := hsf ha hc
        obtain rfl : X = X1 := Option.some.inj (HW.out.symm.trans hX1)
        clear hsf ha hX1 HW
        generalize hoi : o i = oi at *
        have hw := P5.dk.wd
        rw [hX'] at hw
        obtain ⟨fb, M, N, n5, f1, f2, f3, hF, hT5, hPP⟩ := hw
        obtain ⟨po, pc, hpa, hpcc⟩ := P5.dk.pp.ex
        obtain ⟨dq, dc, hda, hdcc⟩ := P5.dk.pd.ex
        obtain ⟨go, gc, hgv, hgcc⟩ := P5.dk.g.ex
        have d0 : w5.cell? ⟨d, 0, none⟩ = some (.pointer (some ⟨fb, 0, none⟩)) := by
          rw [P5.dk.b.is 0 (by omega)]
          show some m5.fv = _
          rw [f1]
        have d1 : w5.cell? ⟨d, 1, none⟩ = some (.pointer (some ⟨M.t, 0, none⟩)) := by
          rw [P5.dk.b.is 1 (by omega)]
          show some m5.tv = _
          rw [f2]
        have d4 : w5.cell? ⟨d, 4, none⟩ = some (.int .i64 (D'.q.r)) := P5.dk.b.is 4 (by omega)
        have d5 : w5.cell? ⟨d, 5, none⟩ = some (.int .i64 (D'.q.s)) := P5.dk.b.is 5 (by omega)
        have d6 : w5.cell? ⟨d, 6, none⟩ = some (.int .i64 (D'.q.t)) := P5.dk.b.is 6 (by omega)
        have d7 : w5.cell? ⟨d, 7, none⟩ = some m5.gv := P5.dk.b.is 7 (by omega)
        have d8 : w5.cell? ⟨d, 8, none⟩ = some (.int .i64 (D'.q.h)) := P5.dk.b.is 8 (by omega)
        have d9 : w5.cell? ⟨d, 9, none⟩ = some (.int .i64 (D'.q.m)) := P5.dk.b.is 9 (by omega)
        have d11 : w5.cell? ⟨d, 11, none⟩ = some (.int .i64 (D'.pl.t)) := P5.dk.b.is 11 (by omega)
        have d12 : w5.cell? ⟨d, 12, none⟩ = some m5.pa := P5.dk.b.is 12 (by omega)
        have d13 : w5.cell? ⟨d, 13, none⟩ = some m5.da := P5.dk.b.is 13 (by omega)
        have d14 : w5.cell? ⟨d, 14, none⟩ = some (.int .i64 (D'.pl.x)) := P5.dk.b.is 14 (by omega)
        have hIp := P5.dk.pp
        have hId := P5.dk.pd
        have hIg := P5.dk.g
        have x0 : w5.cell? ⟨xb, 0, none⟩ = some (.int .i64 (oi.K)) := X5.is 0 (by omega)
        rw [hpa] at d12 hIp
        rw [hda] at d13 hId
        rw [hgv] at d7 hIg
        rw [hpt] at d11
        rw [hq] at d4 d5 d6 d7 d8 d9 hIg
        clear P5 X5 hX' f1 f2 f3 hPP hpa hda hgv hpt hq hoi hc
        have HFOK := hid hF.ok
        have hval := hfd.valid hF.ok HTI.out (HWBX.out.nr)
        have hmt := hfd.meets hF.ok
        obtain ⟨q, hq⟩ : ∃ y, rqOf oi = y := ⟨_, rfl⟩
        rw [hq] at d4 d5 d6 d7 d8 d9 d11 hfd hval hmt hIg
        obtain ⟨path, hpath⟩ : ∃ y, D'.pl.path = y := ⟨_, rfl⟩
        have hlen := hfd.len
        have hrk := rok_of hF.ok hfd.rc
        have hln := hfd.len2 hF.ok
        rw [hpath] at d12 hIp hlen hpcc hln hval hmt
        have hgk := hrk.gok.1
        have ht0 := hrk.t
        have hbd := TC5.bd.base
        obtain ⟨pn, hpn⟩ : ∃ y, path.length = y := ⟨_, rfl⟩
        obtain ⟨gn, hgn⟩ : ∃ y, q.gl.length = y := ⟨_, rfl⟩
        rw [hpn] at d12 hIp hlen hln hval
        rw [hgn] at d7 hIg hgk
        obtain ⟨hv1, hv2, hv3, hv4, hv5, hv6, hv7⟩ := hval
        obtain ⟨s, hmt⟩ := hmt
        have HV1 := hid hv1
        have HV2 := hid hv2
        have HV4 := hid hv4
        have HV5 := hid hv5
        have HV6 := hid hv6
        have HV7 := hid hv7
        have HMT := hid hmt
        have HPN := hid hpn
        have HGN := hid hgn
        have HF5 := hid hF
        have HTC := hid TC5
        have HIP := hid hIp
        have HIG := hid hIg
        clear hq hpath hfd hrk hpn hgn hF hT5 TC5 hIp hId hkd hIg hpcc hdcc hgcc hv1 hv2 hv4 hv5 hv6 hv7 hmt d1 d13 d14 x0 HTI
        go_wp2
        refine region_via (e4R d q (.slice go gn gc) (.slice po pn pc) w5) ?_ ?_
        · --BEGIN 1
          refine wp_region_tree 11 (fun w' => w'.cell? ⟨d, 4, none⟩ = some (.int .i64 (q.r)) ∧ w'.cell? ⟨d, 5, none⟩ = some (.int .i64 (q.s)) ∧ w'.cell? ⟨d, 6, none⟩ = some (.int .i64 (q.t)) ∧ w'.cell? ⟨d, 7, none⟩ = some (.slice go gn gc) ∧ w'.cell? ⟨d, 8, none⟩ = some (.int .i64 (q.h)) ∧ w'.cell? ⟨d, 9, none⟩ = some (.int .i64 (q.m)) ∧ w'.cell? ⟨d, 12, none⟩ = some (.slice po pn pc)) (.q 0 false (.q 1 false (.q 2 false (.q 3 true (.q 4 false (.q 5 false (.q 6 false (.q 7 false (.q 8 true (.one 9 true (.one 10 true (.one 11 false .nil)))))))))))) (by kernel_rfl) (by kernel_rfl) (by kernel_rfl) ?_ ?_
          · simp [go_sem, ↓IntWalk.iteOmega, *]
          repeat (first | (refine wpTr_qf (v := ?_) rfl rfl ?_ ?_; rotate_left; focus (intro w; go_simp; (try (with_reducible rfl)); done); try simp only [List.getElem_toArray, List.getElem_cons_zero, List.getElem_cons_succ, Act.put, List.setIfInBounds_toArray, List.set_cons_zero, List.set_cons_succ]) | (refine wpTr_qt (v := ?_) rfl rfl ?_ ?_; rotate_left; focus (intro w hSw; (try dsimp only at hSw); go_simp; (try (with_reducible rfl)); done); try simp only [List.getElem_toArray, List.getElem_cons_zero, List.getElem_cons_succ, Act.put, List.setIfInBounds_toArray, List.set_cons_zero, List.set_cons_succ]))
          refine wpTr_one rfl rfl (fun K hK => ?_)
          go_simp
          refine hK.out _ _ (fun _ => by simp [go_sem, ↓IntWalk.iteOmega, *]) ?_
          clear hK K
          refine wpTr_one rfl rfl (fun K hK => ?_)
          go_simp
          refine hK.out _ _ (fun _ => by simp [go_sem, ↓IntWalk.iteOmega, *]) ?_
          clear hK K
          refine wpTr_one rfl rfl (fun K hK => ?_)
          go_simp
          refine hK.out _ _ (fun h => by cases h) ?_
          clear hK K
          refine wpTr_nil ?_
          refine NoPanic.normal ?_
          refine ⟨rfl, w5.heap.size, by omega, by (repeat (first | with_reducible exact Below.rf _ | with_reducible exact World.below_ext _ _ | with_reducible refine Below.ex ?_ _ | with_reducible refine Below.al ?_ _ | with_reducible refine Below.setCell ?_ (by simp) _ | with_reducible refine Below.drew ?_)), ?_, by simp only [Act.put, List.setIfInBounds_toArray, List.set_cons_zero, List.set_cons_succ, List.getElem_toArray, List.getElem_cons_zero, List.getElem_cons_succ]⟩
          refine ⟨by (simp <;> omega), fun i hi => ?_, fun i hi => by simp [go_sem, ↓IntWalk.iteOmega]⟩
          rcases (by omega : i = 0 ∨ i = 1 ∨ i = 2 ∨ i = 3 ∨ i = 4 ∨ i = 5) with rfl | rfl | rfl | rfl | rfl | rfl <;> simp [go_sem, ↓IntWalk.iteOmega, rq4]
          --END 1
        · --BEGIN 2
          rintro a w7 ⟨rb, hrb, hb7, hR7, rfl⟩
          simp only [Act.put, List.setIfInBounds_toArray, List.set_cons_zero, List.set_cons_succ]
          have HE7 : Hid (E4 w7 l5 labc d rb fb Mc X.F X.T q (.slice go gn gc) (.slice po pn pc) path) := ⟨HF5.out.below hb7, HTC.out.below hb7, (World.cell?_of_block (hb7.block d hdl5)).trans d0, (World.cell?_of_block (hb7.block d hdl5)).trans d11, Nat.lt_of_lt_of_le hdl5 hb7.size, hR7, HIP.out.keptL (A := fun _ => False) (KeptL.of_below hb7) (fun _ h => h.elim), HIG.out.below hb7⟩
          have HP7 := hid (HP5.out.below hb7)
          clear hb7 hR7 HF5 HTC HIP HIG d0 d3 d4 d5 d6 d7 d8 d9 d10 d11 d12 hdl5 hxl5 HP5 hrb
          have e0 := HE7.out.d0
          have e11 := HE7.out.d11
          have hdx := HE7.out.dl
          have r0 : w7.cell? ⟨rb, 0, none⟩ = some (.int .i64 (q.r)) := HE7.out.r.is 0 (by omega)
          have r1 : w7.cell? ⟨rb, 1, none⟩ = some (.int .i64 (q.s)) := HE7.out.r.is 1 (by omega)
          have r2 : w7.cell? ⟨rb, 2, none⟩ = some (.int .i64 (q.t)) := HE7.out.r.is 2 (by omega)
          have r4 : w7.cell? ⟨rb, 4, none⟩ = some (.int .i64 (q.h)) := HE7.out.r.is 4 (by omega)
          have hrl := HE7.out.r.lt
          obtain ⟨bk, ba, n', cap', hv, hbl, -, cq0⟩ := HE7.out.pp.row 0 _ HV1.out
          obtain ⟨bk2, ba2, n2', cap2', hv2, -, -, cq1⟩ := HE7.out.pp.row (pn - 1) _ HV2.out
          have hv3' := hv.symm.trans hv2
          simp only [Value.slice.injEq, Option.some.injEq, Addr.mk.injEq] at hv hv3'
          obtain ⟨⟨rfl, rfl, -⟩, -, -⟩ := hv3'
          obtain ⟨rfl, -, -⟩ := hv
          rw [Nat.add_zero] at cq0
          obtain ⟨bay, hbay⟩ : ∃ y, (X.F.park q.r).1 = y := ⟨_, rfl⟩
          obtain ⟨bb, hbb⟩ : ∃ y, (X.F.park q.r).2 = y := ⟨_, rfl⟩
          rw [hbay] at cq1
          have PK : Hid (∀ w' : World, Below w7.heap.size w7 w' → Calls Try.prog 20 #[.pointer (some ⟨fb, 0, none⟩), .int .i64 (q.r)] w' fun e w'' => e = .returned (.tuple #[.int .i64 (bay), .bool bb]) ∧ w'' = w') := fun w' h => by
            have := parking_any fb X.F l5 q.r w' (HE7.out.below h).f
            rw [hbay, hbb] at this
            exact this
          obtain ⟨pm, hpm⟩ : ∃ pm, pn - 1 = pm := ⟨_, rfl⟩
          rw [hpm] at cq1
          have hpi : (pn : Int) - 1 = (pm : Int) := by omega
          have dpm : decide ((pm : Int) < (pn : Int)) = true := by simp; omega
          have dpmn : decide (pm < pn) = true := by simp; omega
          have dn0 : (((pn : Nat) : Int) == 0) = false := by simp; omega
          have dn1 : decide ((0 : Int) < (pn : Int)) = true := by simp; omega
          have dn2 : decide (0 < pn) = true := by simp; omega
          have dh : decide (q.h < (pm : Int)) = false := by simp; omega
          clear hpm
          have dqq : (q.t != q.t) = false := by simp
          have dss : (q.s != q.s) = false := by simp
          have dbb : (bay != bay) = false := by simp
          clear hv2 hbay hbb
          go_wp2
          first | with_reducible refine wp_region_ext2 (by kernel_rfl) (by kernel_rfl) ?_ | refine wp_region_ext (by kernel_rfl) (by kernel_rfl) ?_
          repeat (go_big_quiet_step ((go_at_call 20; exact Calls.ext_of_same (PK.out _ (by (repeat (first | with_reducible exact Below.rf _ | with_reducible exact World.below_ext _ _ | with_reducible refine Below.ex ?_ _ | with_reducible refine Below.al ?_ _ | with_reducible refine Below.setCell ?_ (by simp) _ | with_reducible refine Below.drew ?_)))))))
          refine wpQuiet_nil ?_
          rintro w8 ⟨z, hw2⟩
          have hb8 : Below w7.heap.size w7 w8 := by rw [hw2]; exact World.below_ext w7 z
          have e0' := (World.cell?_of_block (hb8.block d hdx)).trans e0
          have e11' := (World.cell?_of_block (hb8.block d hdx)).trans e11
          have r0' := (World.cell?_of_block (hb8.block rb hrl)).trans r0
          have r1' := (World.cell?_of_block (hb8.block rb hrl)).trans r1
          have r2' := (World.cell?_of_block (hb8.block rb hrl)).trans r2
          have r4' := (World.cell?_of_block (hb8.block rb hrl)).trans r4
          have cq0' := (World.cell?_of_block (hb8.block bk hbl)).trans cq0
          have cq1' := (World.cell?_of_block (hb8.block bk hbl)).trans cq1
          have hrl' := Nat.lt_of_lt_of_le hrl hb8.size
          have hdx' := Nat.lt_of_lt_of_le hdx hb8.size
          have hbl' := Nat.lt_of_lt_of_le hbl hb8.size
          have HB8 := hid hb8
          clear hw2 e0 e11 r0 r1 r2 r4 cq0 cq1 hrl hdx hbl PK hb8
          go_wp2
          first | with_reducible refine wp_region_ext2 (by kernel_rfl) (by kernel_rfl) ?_ | refine wp_region_ext (by kernel_rfl) (by kernel_rfl) ?_
          repeat (go_big_quiet_step (fail))
          refine wpQuiet_nil ?_
          rintro w9 ⟨z, hw2⟩
          clear hpi dpm dpmn dn0 dn1 dn2 dh
          have hb9 : Below w7.heap.size w7 w9 := HB8.out.trans (Below.mono (by rw [hw2]; exact World.below_ext w8 _) HB8.out.size)
          have HE9 := hid (HE7.out.below hb9)
          have HP9 := hid (HP7.out.below hb9)
          clear hw2 HB8 hb9 HE7 HP7 e0' e11' r0' r1' r2' r4' cq0' cq1' hrl' hdx' hbl'
          go_wp2
          refine ad_loop w9 l5 labc d rb fb pn pc Mc X.F X.T q (.slice go gn gc) _ path HE9.out HV4.out HPN.out ⟨by omega, by omega⟩ _ _ _ _ _ _ _ _ _ _ _ _ _ _ _ _ _ _ _ _ _ _ _ _ _ _ _ _ _ _ _ _ _ _ _ _ _ _ _ _ _ _ _ _ _ _ _ _ _ _ _ _ _ _ _ _ _ _ _ _ _ _ _ _ _ _ _ _ _ _ _ _ _ _ _ _ _ _ _ _ _ _ _ _ _ _ _ _ _ _ _ _ _ _ _ _ _ _ _ _ _ _ _ _ _ _ _ _ _ _ _ _ _ _ _ _ _ _ _ _ _ _ _ _ _ _ _ _ _ _ _ _ _ _ _ _ _ _ _ _ _ _ _ _ _ _ _ _ _ _ _ _ _ _ _ _ _ _ _ _ _ _ _ _ _ _ _ _ _ _ _ _ _ _ _ _ _ _ _ _ _ _ _ _ _ _ _ _ _ _ _ _ _ _ _ _ _ _ _ _ _ _ _ _ _ _ _ _ _ _ _ _ _ _ _ _ _ _ _ _ _ _ _ _ _ _ _ _ _ _ _ _ _ _ _ _ _ _ _ _ _ _ _ _ _ _ _ _ _ _ _ _ _ _ _ _ _ _ _ _ _ _ _ _ _ _ _ _ _ _ _ _ _ _ _ ?_
          intro aL w10 hE
          obtain ⟨hBL, hE⟩ := hE
          obtain ⟨UAD, hE⟩ := hE
          obtain rfl := hE
          have HEa := hid (HE9.out.below hBL)
          have HPa := hid (HP9.out.below hBL)
          have r3 : w10.cell? ⟨rb, 3, none⟩ = some (.slice go gn gc) := HEa.out.r.is 3 (by omega)
          have hrl := HEa.out.r.lt
          clear hBL HE9 HP9
          go_wp2
          refine go_loop w10 l5 labc d rb fb pn pc gn gc Mc X.F X.T q go _ path s HEa.out HMT.out HPN.out ⟨by omega, by omega⟩ HGN.out (by omega) _ _ _ _ _ _ _ _ _ _ _ _ _ _ _ _ _ _ _ _ _ _ _ _ _ _ _ _ _ _ _ _ _ _ _ _ _ _ _ _ _ _ _ _ _ _ _ _ _ _ _ _ _ _ _ _ _ _ _ _ _ _ _ _ _ _ _ _ _ _ _ _ _ _ _ _ _ _ _ _ _ _ _ _ _ _ _ _ _ _ _ _ _ _ _ _ _ _ _ _ _ _ _ _ _ _ _ _ _ _ _ _ _ _ _ _ _ _ _ _ _ _ _ _ _ _ _ _ _ _ _ _ _ _ _ _ _ _ _ _ _ _ _ _ _ _ _ _ _ _ _ _ _ _ _ _ _ _ _ _ _ _ _ _ _ _ _ _ _ _ _ _ _ _ _ _ _ _ _ _ _ _ _ _ _ _ _ _ _ _ _ _ _ _ _ _ _ _ _ _ _ _ _ _ _ _ _ _ _ _ _ _ _ _ _ _ _ _ _ _ _ _ _ _ _ _ _ _ _ _ _ _ _ _ _ _ _ _ _ _ _ _ _ _ _ _ _ _ _ _ _ _ _ _ _ _ _ _ _ _ _ _ _ _ _ _ _ _ _ _ _ _ _ ?_
          intro aL w11 hE
          obtain ⟨hBL, hE⟩ := hE
          obtain ⟨UGO, hE⟩ := hE
          obtain rfl := hE
          have HEb := hid (HEa.out.below hBL)
          have HPb := hid (HPa.out.below hBL)
          clear hBL HEa HPa r3 hrl
          go_wp2
          refine ot_loop w11 l5 labc d rb fb pn pc Mc X.F X.T q (.slice go gn gc) _ path HEb.out HV5.out HV6.out HV7.out HPN.out ⟨by omega, by omega⟩ ⟨by omega, by omega⟩ _ _ _ _ _ _ _ _ _ _ _ _ _ _ _ _ _ _ _ _ _ _ _ _ _ _ _ _ _ _ _ _ _ _ _ _ _ _ _ _ _ _ _ _ _ _ _ _ _ _ _ _ _ _ _ _ _ _ _ _ _ _ _ _ _ _ _ _ _ _ _ _ _ _ _ _ _ _ _ _ _ _ _ _ _ _ _ _ _ _ _ _ _ _ _ _ _ _ _ _ _ _ _ _ _ _ _ _ _ _ _ _ _ _ _ _ _ _ _ _ _ _ _ _ _ _ _ _ _ _ _ _ _ _ _ _ _ _ _ _ _ _ _ _ _ _ _ _ _ _ _ _ _ _ _ _ _ _ _ _ _ _ _ _ _ _ _ _ _ _ _ _ _ _ _ _ _ _ _ _ _ _ _ _ _ _ _ _ _ _ _ _ _ _ _ _ _ _ _ _ _ _ _ _ _ _ _ _ _ _ _ _ _ _ _ _ _ _ _ _ _ _ _ _ _ _ _ _ _ _ _ _ _ _ _ _ _ _ _ _ _ _ _ _ _ _ _ _ _ _ _ _ _ _ _ _ _ _ _ _ _ _ _ _ _ _ _ _ _ _ _ _ _ ?_
          intro aL w12 hE
          obtain ⟨hBL, hE⟩ := hE
          obtain ⟨UOT, hE⟩ := hE
          obtain rfl := hE
          have HPc := hid (HPb.out.below hBL)
          clear hBL HEb HPb
          go_wp2
          refine ⟨by first | exact Or.inl rfl | exact Or.inr rfl, ⟨l5, m5, D', HPc.out, HIV5.out⟩, pickU rfl⟩
          --END 2
      · --BEGIN T
        have dc : ((D'.pl.c : Int) != 0) = true := by simp; exact hc
        clear hsf ha hc P5 X5 TC5 HW
        go_wp2
        refine ⟨by first | exact Or.inl rfl | exact Or.inr rfl, ⟨l5, m5, D', HP5.out, HIV5.out⟩, pickU rfl⟩
        --END T
    · --BEGIN U
      rw [Bool.not_eq_true] at ha
      rw [ha] at d3
      clear hsf ha P5 X5 TC5 HW
      go_wp2
      refine ⟨by first | exact Or.inl rfl | exact Or.inr rfl, ⟨l5, m5, D', HP5.out, HIV5.out⟩, pickU rfl⟩
      --END U
    --END S
end Go.Proofs.Qxb6500716a
