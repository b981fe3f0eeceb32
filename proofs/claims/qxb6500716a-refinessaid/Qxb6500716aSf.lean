/-
  Solve: one state, cut out.
-/
import Derived.Test.Qxb6500716aSp
import Derived.Test.Qxb6500716aSe
namespace Go.Proofs.Qxb6500716a
open Go.RowKit Go.Maps
set_option linter.unusedSimpArgs false
set_option linter.unusedVariables false
set_option maxRecDepth 20000
set_option maxHeartbeats 4000000
/-- What the work on one state leaves. -/
def oneS (w0 : World) (sb rb H : Nat) (mm : Nat → Nat) (F : FS) (T : TS) (q : Rq) (gv : Value) (bay hz : Int) (off label cell B : Nat) (Fr Gr : Act → Prop) (e : Exit) (a' : Act) (w'' : World) : Prop :=
  ((e = .normal ∨ e = .exit 7) ∧ (∃ lb R, Sg7 w0 w'' lb sb rb H mm q gv R (B + 386) ∧ Svp F T q bay H R off label (cell + 1)) ∧ Fr a') ∨
  (e = .ret ∧ Below w0.heap.size w0 w'' ∧ Solved F T q bay hz 0 (q.t + off) ∧ Gr a')
theorem Sg7.mono {w0 w : World} {lb : Nat → Nat} {sb rb H B B' : Nat} {mm : Nat → Nat} {q : Rq} {gv : Value} {R : Nat → Nat → Nat → Prop} (h : Sg7 w0 w lb sb rb H mm q gv R B) (hB : B ≤ B') : Sg7 w0 w lb sb rb H mm q gv R B' := { h with rd := h.rd.mono hB }
/-- A block that bears the label 3 may change. -/
theorem Sg7.grown {w0 w w' : World} {lb : Nat → Nat} {sb rb H B b : Nat} {mm : Nat → Nat} {q : Rq} {gv : Value} {R : Nat → Nat → Nat → Prop} (h : Sg7 w0 w lb sb rb H mm q gv R B) (hl : lb b = 3) (hg : w.grownBy w' (some b)) : Sg7 w0 w' lb sb rb H mm q gv R B := by
  have hne : ∀ k, lb k ≠ 3 → some k ≠ some b := fun k hk e => hk (by rw [Option.some.inj e]; exact hl)
  refine ⟨⟨hg.os.trans h.bl.os, hg.tape.trans h.bl.tape, hg.output.trans h.bl.output, Nat.le_trans h.bl.size hg.size, fun k hk => ?_⟩, h.lo, h.s.of_block hg.size (hg.block _ h.s.lt (hne _ (by rw [h.ls]; omega))), h.ls, ⟨h.rd.b.of_block hg.size (hg.block _ h.rd.b.lt (hne _ (by rw [h.rd.lr]; omega))), h.rd.lr, fun i hi => ?_⟩⟩
  · rw [hg.block k (Nat.lt_of_lt_of_le hk h.bl.size) (hne _ (by rw [h.lo k hk]; omega))]
    exact h.bl.block k hk
  · obtain ⟨h1, cn, h2, h3⟩ := h.rd.m i hi
    exact ⟨h1, cn, h2, h3.of_block (hg.block _ h3.lt (hne _ (by rw [h1]; omega)))⟩
set_option maxRecDepth 1000000 in
set_option maxHeartbeats 400000000 in
theorem one_K (w0 wr : World) (lab lb : Nat → Nat) (mb sb fb rb H B K off label cell gc : Nat) (go : Option Addr) (mm : Nat → Nat) (M : TM) (F : FS) (T : TS) (q : Rq) (bay hz : Int) (R : Nat → Nat → Nat → Prop)
    (HI0 : In7 w0 lab mb fb M F T q (.slice go K gc)) (HS0 : Sg7 w0 wr lb sb rb H mm q (.slice go K gc) R B) (HV0 : Svp F T q bay H R off label cell) (hK : q.gl.length = K) (hK16 : K ≤ 16) (hH : (H : Int) = q.h) (hH2 : H ≤ 255) (hof : off ≤ H) (hce : cell < F.n) (hla : label ≤ K) (hBB : B ≤ 700000000) (hhz : (off : Int) ≤ hz) (hbay : 0 ≤ bay ∧ bay < 384) (hyp0 : label = K)
    (x1 x2 x4 x5 x8 x10 x15 x16 x17 x18 x19 x20 x21 x22 x23 x24 x25 x26 x27 x28 x29 x30 x31 x32 x33 x34 x35 x36 x37 x38 x39 x40 x41 x42 x43 x44 x45 x46 x47 x48 x49 x50 x51 x52 x53 x54 x55 x56 x57 x58 x59 x60 x61 x62 x63 x64 x65 x66 x67 x68 x69 x70 x71 x72 x73 x74 x75 x76 x77 x78 x79 x80 x81 x82 x83 x84 x85 x86 x87 x88 x89 x90 x91 x92 x93 x94 x95 x96 x97 x98 x99 x100 x101 x102 x103 x104 x105 x106 x107 x108 x109 x110 x111 x112 x113 x114 x115 x116 x117 x118 x119 x120 x121 x122 x123 x124 x125 x126 x127 x128 x129 x130 x131 x132 x133 x134 x135 x136 x137 x138 x139 x140 x141 x142 x143 x144 x145 x146 x147 x148 x149 x150 x151 x152 x153 x154 x155 x156 x157 x158 x159 x160 x161 x162 x163 x164 x165 x166 x167 x168 x169 x170 x171 x172 x173 x174 x175 x176 x177 x178 x179 x180 x181 x182 x183 x184 x185 x186 x187 x188 x189 x190 x191 x192 x193 x194 x195 x196 x197 x198 x199 x200 x201 x202 x203 x204 x205 x206 x207 x208 x209 x210 x211 x212 x213 x214 x215 x216 x217 x218 x219 x220 x221 x222 x223 x224 x225 x226 x227 x228 x229 x230 x231 x232 x233 x234 x235 x236 x237 x238 x239 x240 x241 x242 x243 x244 x245 x246 x247 x248 x249 x250 x251 x252 x253 x254 x255 x256 x257 x258 x259 x260 x261 x262 x263 x264 x265 x266 x267 x268 x269 x270 x271 x272 x273 x274 x275 x276 x277 x278 x279 x280 x281 x282 x283 x284 x285 : Value) :
    Code.wp Try.prog ((Try.f34.body.bind (findBlock 7)).getD .skip) (oneS w0 sb rb H mm F T q (.slice go K gc) bay hz off label cell B (fun a' => ∃ UBS : Nat → Value, a' = ⟨List.toArray (.pointer (some ⟨mb, 0, none⟩) :: x1 :: x2 :: .pointer (some ⟨sb, 0, none⟩) :: UBS 4 :: UBS 5 :: .int .i64 (K) :: .int .i64 (bay) :: x8 :: (.slice (some ⟨rb, 0, none⟩) (H + 1) (H + 1)) :: x10 :: .int .i64 (off) :: .int .i64 (q.t + off) :: .int .i64 (label) :: .int .i64 (cell) :: UBS 15 :: UBS 16 :: UBS 17 :: x18 :: UBS 19 :: x20 :: x21 :: x22 :: x23 :: x24 :: x25 :: x26 :: x27 :: x28 :: x29 :: x30 :: x31 :: x32 :: x33 :: x34 :: x35 :: x36 :: x37 :: x38 :: x39 :: x40 :: x41 :: x42 :: x43 :: x44 :: x45 :: x46 :: x47 :: x48 :: x49 :: x50 :: x51 :: x52 :: x53 :: x54 :: x55 :: x56 :: x57 :: x58 :: x59 :: x60 :: x61 :: x62 :: x63 :: x64 :: x65 :: x66 :: x67 :: x68 :: x69 :: x70 :: x71 :: x72 :: x73 :: x74 :: x75 :: x76 :: x77 :: x78 :: x79 :: x80 :: x81 :: x82 :: x83 :: x84 :: x85 :: x86 :: x87 :: x88 :: x89 :: x90 :: x91 :: x92 :: x93 :: x94 :: x95 :: x96 :: x97 :: x98 :: x99 :: x100 :: x101 :: x102 :: x103 :: x104 :: x105 :: x106 :: x107 :: x108 :: x109 :: x110 :: x111 :: x112 :: x113 :: x114 :: x115 :: x116 :: x117 :: x118 :: x119 :: x120 :: x121 :: x122 :: x123 :: x124 :: x125 :: x126 :: x127 :: x128 :: x129 :: x130 :: x131 :: x132 :: x133 :: x134 :: x135 :: x136 :: x137 :: x138 :: x139 :: x140 :: x141 :: x142 :: x143 :: x144 :: x145 :: x146 :: x147 :: x148 :: x149 :: x150 :: x151 :: x152 :: x153 :: x154 :: x155 :: x156 :: x157 :: x158 :: x159 :: x160 :: x161 :: UBS 162 :: UBS 163 :: UBS 164 :: UBS 165 :: UBS 166 :: UBS 167 :: UBS 168 :: UBS 169 :: UBS 170 :: UBS 171 :: UBS 172 :: UBS 173 :: UBS 174 :: UBS 175 :: UBS 176 :: UBS 177 :: UBS 178 :: UBS 179 :: UBS 180 :: UBS 181 :: UBS 182 :: UBS 183 :: UBS 184 :: UBS 185 :: UBS 186 :: UBS 187 :: UBS 188 :: UBS 189 :: UBS 190 :: UBS 191 :: UBS 192 :: UBS 193 :: UBS 194 :: UBS 195 :: UBS 196 :: UBS 197 :: UBS 198 :: UBS 199 :: UBS 200 :: UBS 201 :: UBS 202 :: UBS 203 :: UBS 204 :: UBS 205 :: UBS 206 :: UBS 207 :: UBS 208 :: UBS 209 :: UBS 210 :: UBS 211 :: UBS 212 :: UBS 213 :: UBS 214 :: UBS 215 :: UBS 216 :: UBS 217 :: UBS 218 :: UBS 219 :: UBS 220 :: UBS 221 :: UBS 222 :: UBS 223 :: UBS 224 :: UBS 225 :: UBS 226 :: UBS 227 :: UBS 228 :: UBS 229 :: UBS 230 :: UBS 231 :: UBS 232 :: UBS 233 :: UBS 234 :: UBS 235 :: UBS 236 :: UBS 237 :: UBS 238 :: UBS 239 :: UBS 240 :: UBS 241 :: UBS 242 :: UBS 243 :: UBS 244 :: UBS 245 :: UBS 246 :: UBS 247 :: UBS 248 :: UBS 249 :: UBS 250 :: UBS 251 :: UBS 252 :: UBS 253 :: UBS 254 :: UBS 255 :: UBS 256 :: UBS 257 :: UBS 258 :: UBS 259 :: UBS 260 :: UBS 261 :: UBS 262 :: UBS 263 :: UBS 264 :: UBS 265 :: UBS 266 :: UBS 267 :: UBS 268 :: UBS 269 :: UBS 270 :: UBS 271 :: UBS 272 :: UBS 273 :: UBS 274 :: UBS 275 :: UBS 276 :: UBS 277 :: UBS 278 :: UBS 279 :: UBS 280 :: UBS 281 :: UBS 282 :: UBS 283 :: UBS 284 :: UBS 285 :: []), []⟩) (fun a' => ∃ UBR : Nat → Value, a' = ⟨List.toArray (.pointer (some ⟨mb, 0, none⟩) :: x1 :: x2 :: .pointer (some ⟨sb, 0, none⟩) :: (.int .u8 0) :: .int .i64 (q.t + off) :: .int .i64 (K) :: .int .i64 (bay) :: x8 :: (.slice (some ⟨rb, 0, none⟩) (H + 1) (H + 1)) :: x10 :: .int .i64 (off) :: .int .i64 (q.t + off) :: .int .i64 (label) :: .int .i64 (cell) :: UBR 15 :: UBR 16 :: UBR 17 :: x18 :: UBR 19 :: x20 :: x21 :: x22 :: x23 :: x24 :: x25 :: x26 :: x27 :: x28 :: x29 :: x30 :: x31 :: x32 :: x33 :: x34 :: x35 :: x36 :: x37 :: x38 :: x39 :: x40 :: x41 :: x42 :: x43 :: x44 :: x45 :: x46 :: x47 :: x48 :: x49 :: x50 :: x51 :: x52 :: x53 :: x54 :: x55 :: x56 :: x57 :: x58 :: x59 :: x60 :: x61 :: x62 :: x63 :: x64 :: x65 :: x66 :: x67 :: x68 :: x69 :: x70 :: x71 :: x72 :: x73 :: x74 :: x75 :: x76 :: x77 :: x78 :: x79 :: x80 :: x81 :: x82 :: x83 :: x84 :: x85 :: x86 :: x87 :: x88 :: x89 :: x90 :: x91 :: x92 :: x93 :: x94 :: x95 :: x96 :: x97 :: x98 :: x99 :: x100 :: x101 :: x102 :: x103 :: x104 :: x105 :: x106 :: x107 :: x108 :: x109 :: x110 :: x111 :: x112 :: x113 :: x114 :: x115 :: x116 :: x117 :: x118 :: x119 :: x120 :: x121 :: x122 :: x123 :: x124 :: x125 :: x126 :: x127 :: x128 :: x129 :: x130 :: x131 :: x132 :: x133 :: x134 :: x135 :: x136 :: x137 :: x138 :: x139 :: x140 :: x141 :: x142 :: x143 :: x144 :: x145 :: x146 :: x147 :: x148 :: x149 :: x150 :: x151 :: x152 :: x153 :: x154 :: x155 :: x156 :: x157 :: x158 :: x159 :: x160 :: x161 :: UBR 162 :: UBR 163 :: UBR 164 :: UBR 165 :: UBR 166 :: UBR 167 :: UBR 168 :: UBR 169 :: UBR 170 :: UBR 171 :: UBR 172 :: UBR 173 :: UBR 174 :: UBR 175 :: UBR 176 :: UBR 177 :: UBR 178 :: UBR 179 :: UBR 180 :: UBR 181 :: UBR 182 :: UBR 183 :: UBR 184 :: UBR 185 :: UBR 186 :: UBR 187 :: UBR 188 :: UBR 189 :: UBR 190 :: UBR 191 :: UBR 192 :: UBR 193 :: UBR 194 :: UBR 195 :: UBR 196 :: UBR 197 :: UBR 198 :: UBR 199 :: UBR 200 :: UBR 201 :: UBR 202 :: UBR 203 :: UBR 204 :: UBR 205 :: UBR 206 :: UBR 207 :: UBR 208 :: UBR 209 :: UBR 210 :: UBR 211 :: UBR 212 :: UBR 213 :: UBR 214 :: UBR 215 :: UBR 216 :: UBR 217 :: UBR 218 :: UBR 219 :: UBR 220 :: UBR 221 :: UBR 222 :: UBR 223 :: UBR 224 :: UBR 225 :: UBR 226 :: UBR 227 :: UBR 228 :: UBR 229 :: UBR 230 :: UBR 231 :: UBR 232 :: UBR 233 :: UBR 234 :: UBR 235 :: UBR 236 :: UBR 237 :: UBR 238 :: UBR 239 :: UBR 240 :: UBR 241 :: UBR 242 :: UBR 243 :: UBR 244 :: UBR 245 :: UBR 246 :: UBR 247 :: UBR 248 :: UBR 249 :: UBR 250 :: UBR 251 :: UBR 252 :: UBR 253 :: UBR 254 :: UBR 255 :: UBR 256 :: UBR 257 :: UBR 258 :: UBR 259 :: UBR 260 :: UBR 261 :: UBR 262 :: UBR 263 :: UBR 264 :: UBR 265 :: UBR 266 :: UBR 267 :: UBR 268 :: UBR 269 :: UBR 270 :: UBR 271 :: UBR 272 :: UBR 273 :: UBR 274 :: UBR 275 :: UBR 276 :: UBR 277 :: UBR 278 :: UBR 279 :: UBR 280 :: UBR 281 :: UBR 282 :: UBR 283 :: UBR 284 :: UBR 285 :: []), []⟩)) ⟨List.toArray (.pointer (some ⟨mb, 0, none⟩) :: x1 :: x2 :: .pointer (some ⟨sb, 0, none⟩) :: x4 :: x5 :: .int .i64 (K) :: .int .i64 (bay) :: x8 :: (.slice (some ⟨rb, 0, none⟩) (H + 1) (H + 1)) :: x10 :: .int .i64 (off) :: .int .i64 (q.t + off) :: .int .i64 (label) :: .int .i64 (cell) :: x15 :: x16 :: x17 :: x18 :: x19 :: x20 :: x21 :: x22 :: x23 :: x24 :: x25 :: x26 :: x27 :: x28 :: x29 :: x30 :: x31 :: x32 :: x33 :: x34 :: x35 :: x36 :: x37 :: x38 :: x39 :: x40 :: x41 :: x42 :: x43 :: x44 :: x45 :: x46 :: x47 :: x48 :: x49 :: x50 :: x51 :: x52 :: x53 :: x54 :: x55 :: x56 :: x57 :: x58 :: x59 :: x60 :: x61 :: x62 :: x63 :: x64 :: x65 :: x66 :: x67 :: x68 :: x69 :: x70 :: x71 :: x72 :: x73 :: x74 :: x75 :: x76 :: x77 :: x78 :: x79 :: x80 :: x81 :: x82 :: x83 :: x84 :: x85 :: x86 :: x87 :: x88 :: x89 :: x90 :: x91 :: x92 :: x93 :: x94 :: x95 :: x96 :: x97 :: x98 :: x99 :: x100 :: x101 :: x102 :: x103 :: x104 :: x105 :: x106 :: x107 :: x108 :: x109 :: x110 :: x111 :: x112 :: x113 :: x114 :: x115 :: x116 :: x117 :: x118 :: x119 :: x120 :: x121 :: x122 :: x123 :: x124 :: x125 :: x126 :: x127 :: x128 :: x129 :: x130 :: x131 :: x132 :: x133 :: x134 :: x135 :: x136 :: x137 :: x138 :: x139 :: x140 :: x141 :: x142 :: x143 :: x144 :: x145 :: x146 :: x147 :: x148 :: x149 :: x150 :: x151 :: x152 :: x153 :: x154 :: x155 :: x156 :: x157 :: x158 :: x159 :: x160 :: x161 :: x162 :: x163 :: x164 :: x165 :: x166 :: x167 :: x168 :: x169 :: x170 :: x171 :: x172 :: x173 :: x174 :: x175 :: x176 :: x177 :: x178 :: x179 :: x180 :: x181 :: x182 :: x183 :: x184 :: x185 :: x186 :: x187 :: x188 :: x189 :: x190 :: x191 :: x192 :: x193 :: x194 :: x195 :: x196 :: x197 :: x198 :: x199 :: x200 :: x201 :: x202 :: x203 :: x204 :: x205 :: x206 :: x207 :: x208 :: x209 :: x210 :: x211 :: x212 :: x213 :: x214 :: x215 :: x216 :: x217 :: x218 :: x219 :: x220 :: x221 :: x222 :: x223 :: x224 :: x225 :: x226 :: x227 :: x228 :: x229 :: x230 :: x231 :: x232 :: x233 :: x234 :: x235 :: x236 :: x237 :: x238 :: x239 :: x240 :: x241 :: x242 :: x243 :: x244 :: x245 :: x246 :: x247 :: x248 :: x249 :: x250 :: x251 :: x252 :: x253 :: x254 :: x255 :: x256 :: x257 :: x258 :: x259 :: x260 :: x261 :: x262 :: x263 :: x264 :: x265 :: x266 :: x267 :: x268 :: x269 :: x270 :: x271 :: x272 :: x273 :: x274 :: x275 :: x276 :: x277 :: x278 :: x279 :: x280 :: x281 :: x282 :: x283 :: x284 :: x285 :: []), []⟩ wr := by
  conv => arg 2; whnf
  have HI := hid HI0
  have HS := hid HS0
  have HV := hid HV0
  have HFK := hid HI0.f.ok
  have hqt := HI0.tk
  have hn384 := HI0.f.ok.n
  have HHZ := hid hhz
  have HHQ := hid hH
  have HKL := hid hK
  have HY := hid hyp0
  clear HI0 HS0 HV0 hhz hH hK hyp0
  have hMB := HI.out.m.below HS.out.bl
  have m0 := hMB.c0
  have m1 := hMB.c1
  have hml := hMB.lt
  have s0 : (wr).cell? ⟨sb, 0, none⟩ = some (.int .i64 (q.r)) := HS.out.s.is 0 (by omega)
  have s3 : (wr).cell? ⟨sb, 3, none⟩ = some (.slice go K gc) := HS.out.s.is 3 (by omega)
  have s4 : (wr).cell? ⟨sb, 4, none⟩ = some (.int .i64 (q.h)) := HS.out.s.is 4 (by omega)
  have hsl := HS.out.s.lt
  have hrl := HS.out.rd.b.lt
  have hrc : wr.cell? ⟨rb, off, none⟩ = some (.map (some (mm off))) := HS.out.rd.b.is off (by omega)
  by_cases hR : R off cell label
  · have LK := HS.out.rd.look (i := off) (c := cell) (l := label) (by omega) (by omega) (by omega) true (by simp [hR])
    have dK : ((label : Int) == (K : Int)) = true := by have := HY.out; simp; omega
    have dKl : decide ((label : Int) < (K : Int)) = false := by have := HY.out; simp; omega
    have dKn : decide (label < K) = false := by have := HY.out; simp; omega
    have HD : Hid (Dwd T q H R R off label cell) := Or.inl ⟨rfl, fun g hg => by rw [List.getElem?_eq_none (by have := HY.out; have := HKL.out; omega)] at hg; cases hg⟩
    have HSB := hid (HS.out.mono (B' := B + 1) (by omega))
    obtain ⟨fv, hfv⟩ : ∃ y, T.freeF q.r bay (q.t + off) = y := ⟨_, rfl⟩
    have FF : Hid (∀ w' : World, Below wr.heap.size wr w' → Calls Try.prog 58 #[.pointer (some ⟨M.t, 0, none⟩), .int .i64 (q.r), .int .i64 (bay), .int .i64 (q.t + off)] w' fun e w'' => e = .returned (.bool fv) ∧ ∃ z, w'' = w'.ext z) := fun w' h => by
      have := freeF_any M T lab q.r bay (q.t + off) w' (HI.out.t.below (HS.out.bl.trans (h.mono HS.out.bl.size)))
      rw [hfv] at this
      exact this
    by_cases hcb : (cell : Int) = bay
    · have dB : ((cell : Int) == bay) = true := by simp [hcb]
      cases fv with
      | true =>
        have HA : Hid (T.arrd q bay ⟨cell, off, label, -1⟩ = true) := by unfold Hid TS.arrd; simp [HY.out, HKL.out, hcb, hfv]
        clear hfv hcb
        go_wp2
        first | with_reducible refine wp_region_ext2 (by kernel_rfl) (by kernel_rfl) ?_ | refine wp_region_ext (by kernel_rfl) (by kernel_rfl) ?_
        repeat (go_big_quiet_step ((go_at_call 58; exact Calls.ext_of (FF.out _ (by (repeat (first | with_reducible exact Below.rf _ | with_reducible exact World.below_ext _ _ | with_reducible refine Below.ex ?_ _ | with_reducible refine Below.al ?_ _ | with_reducible refine Below.setCell ?_ (by simp) _ | with_reducible refine Below.drew ?_)))))))
        refine wpQuiet_nil ?_
        rintro w3 ⟨z, hw2⟩
        have HB3 : Hid (Below w0.heap.size w0 w3) := HS.out.bl.trans (Below.mono (by rw [hw2]; exact World.below_ext wr z) HS.out.bl.size)
        clear hw2
        go_wp2
        exact Or.inr ⟨rfl, HB3.out, HV.out.found hR hof HHZ.out HA.out, pickU rfl⟩
      | false =>
        have HA : Hid (T.arrd q bay ⟨cell, off, label, -1⟩ = false) := by unfold Hid TS.arrd; simp [hfv]
        clear hfv hcb
        go_wp2
        first | with_reducible refine wp_region_ext2 (by kernel_rfl) (by kernel_rfl) ?_ | refine wp_region_ext (by kernel_rfl) (by kernel_rfl) ?_
        repeat (go_big_quiet_step ((go_at_call 58; exact Calls.ext_of (FF.out _ (by (repeat (first | with_reducible exact Below.rf _ | with_reducible exact World.below_ext _ _ | with_reducible refine Below.ex ?_ _ | with_reducible refine Below.al ?_ _ | with_reducible refine Below.setCell ?_ (by simp) _ | with_reducible refine Below.drew ?_)))))))
        refine wpQuiet_nil ?_
        rintro w3 ⟨z, hw2⟩
        have hb3 : Below wr.heap.size wr w3 := by rw [hw2]; exact World.below_ext wr z
        have HS3 := hid (HSB.out.below hb3)
        clear hw2 hb3 hMB m0 m1 hml s0 s3 s4 hsl hrl hrc LK FF
        have hMB := HI.out.m.below HS3.out.bl
        have m0 := hMB.c0
        have m1 := hMB.c1
        have hml := hMB.lt
        have s0 : (w3).cell? ⟨sb, 0, none⟩ = some (.int .i64 (q.r)) := HS3.out.s.is 0 (by omega)
        have s3 : (w3).cell? ⟨sb, 3, none⟩ = some (.slice go K gc) := HS3.out.s.is 3 (by omega)
        have s4 : (w3).cell? ⟨sb, 4, none⟩ = some (.int .i64 (q.h)) := HS3.out.s.is 4 (by omega)
        have hsl := HS3.out.s.lt
        have hrl := HS3.out.rd.b.lt
        --BEGIN 1
        by_cases hoH : off = H
        · have dH : ((off : Int) == q.h) = true := by have := HHQ.out; simp; omega
          have HOH := hid hoH
          clear hoH
          go_wp2
          exact Or.inl ⟨by first | exact Or.inl rfl | exact Or.inr rfl, ⟨lb, R, HS3.out.mono (by omega), HV.out.step HFK.out hR HA.out HD.out (Or.inl ⟨HOH.out, rfl⟩)⟩, pickU rfl⟩
        · have dH : ((off : Int) == q.h) = false := by have := HHQ.out; simp; omega
          obtain ⟨nv, hni, hnc⟩ := near_val fb F lab cell hce w0 HI.out.f
          have NR : Hid (∀ w' : World, Below (w3).heap.size w3 w' → Calls Try.prog 32 #[.pointer (some ⟨fb, 0, none⟩), .int .i64 (cell)] w' fun e w'' => e = .returned nv ∧ w'' = w') := fun w' h => hnc w' (KeptL.of_below (HS3.out.bl.trans (h.mono HS3.out.bl.size)))
          have HNI := hid hni
          have HOL : Hid (off + 1 ≤ H) := by unfold Hid; omega
          clear hni hnc hoH
          go_wp2_with (first | (go_at_call 32; refine (NR.out _ (by (repeat (first | with_reducible exact Below.rf _ | with_reducible exact World.below_ext _ _ | with_reducible refine Below.ex ?_ _ | with_reducible refine Below.al ?_ _ | with_reducible refine Below.setCell ?_ (by simp) _ | with_reducible refine Below.drew ?_)))).mono ?_; rintro e w' ⟨rfl, hw'⟩; obtain rfl := hw'.symm) | (at_builtin; refine hold ?_))
          unfold Hid
          have hbb : Below (w3).heap.size w3 ((w3).alloc (.cells #[.int .i64 (cell)] 3)) := by (repeat (first | with_reducible exact Below.rf _ | with_reducible exact World.below_ext _ _ | with_reducible refine Below.ex ?_ _ | with_reducible refine Below.al ?_ _ | with_reducible refine Below.setCell ?_ (by simp) _ | with_reducible refine Below.drew ?_))
          refine wpl_one rfl _ _ rfl (w3).heap.size cell lab nv (F.near cell) rfl rfl (heap_alloc_new _ _) (HNI.out.keptL (A := fun _ => False) (KeptL.of_below (HS3.out.bl.trans (hbb.mono HS3.out.bl.size))) (fun _ h => h.elim)) (by have := HFK.out.nearL cell; have := HFK.out.n; omega) ?_
          intro g gcap w5 hg1 hg2 hg3 hg4 hg5
          have S5 : Sg7 w0 w5 (fun k => if k < (w3).heap.size then lb k else 3) sb rb H mm q (.slice go K gc) R (B + 1) := ((HS3.out.relab (fun k hk => if_pos hk)).below hbb).grown (if_neg (by omega)) hg5
          have HS5 := hid S5
          obtain ⟨nl, hnl⟩ : ∃ y, (F.near cell).length = y := ⟨_, rfl⟩
          have hnl2 : nl ≤ 384 := by have := HFK.out.nearL cell; have := HFK.out.n; omega
          have HG4 : Hid (∀ (j : Nat) (c : Int), ((cell : Int) :: F.near cell)[j]? = some c → w5.cell? ⟨g, j, none⟩ = some (.int .i64 (c)) ∧ 0 ≤ c ∧ c < 384) := fun j c hj => by
            refine ⟨hg4 j c hj, ?_⟩
            have hn := HFK.out.n
            rcases List.mem_cons.1 (List.mem_of_getElem? hj) with rfl | hm
            · omega
            · have := HFK.out.near _ _ hm
              omega
          have HNL : Hid (((cell : Int) :: F.near cell).length = 1 + nl) := by unfold Hid; rw [List.length_cons, hnl]; omega
          have hgl : (fun k => if k < (w3).heap.size then lb k else 3) g = 3 := if_neg (by omega)
          rw [hnl] at hg2 ⊢
          have HGL := hid hgl
          clear hnl hg4 hg5 hbb S5 hgl
          go_wp2
          refine nb_loop w0 w5 lab _ mb sb fb rb H (B + 1) off cell label g (1 + nl) gcap mm M F T q (.slice go K gc) R ((cell : Int) :: F.near cell) HI.out HS5.out HOL.out (by omega) (by omega) (by omega) (by omega) HNL.out (by omega) (by omega) HGL.out hg3 HG4.out _ _ _ _ _ _ _ _ _ _ _ _ _ _ _ _ _ _ _ _ _ _ _ _ _ _ _ _ _ _ _ _ _ _ _ _ _ _ _ _ _ _ _ _ _ _ _ _ _ _ _ _ _ _ _ _ _ _ _ _ _ _ _ _ _ _ _ _ _ _ _ _ _ _ _ _ _ _ _ _ _ _ _ _ _ _ _ _ _ _ _ _ _ _ _ _ _ _ _ _ _ _ _ _ _ _ _ _ _ _ _ _ _ _ _ _ _ _ _ _ _ _ _ _ _ _ _ _ _ _ _ _ _ _ _ _ _ _ _ _ _ _ _ _ _ _ _ _ _ _ _ _ _ _ _ _ _ _ _ _ _ _ _ _ _ _ _ _ _ _ _ _ _ _ _ _ _ _ _ _ _ _ _ _ _ _ _ _ _ _ _ _ _ _ _ _ _ _ _ _ _ _ _ _ _ _ _ _ _ _ _ _ _ _ _ _ _ _ _ _ _ _ _ _ _ _ _ _ _ _ _ _ _ _ _ _ _ _ _ _ _ _ _ _ _ _ _ _ _ _ _ _ _ _ _ _ _ _ _ _ _ _ _ _ _ _ _ _ _ _ _ _ _ _ _ _ _ ?_
          intro aL w6 hE
          obtain ⟨⟨R3, hS6, hN6⟩, hE⟩ := hE
          obtain ⟨UNB, hE⟩ := hE
          obtain rfl := hE
          have HS6 := hid hS6
          have HN6 := hid hN6
          clear hS6 hN6
          go_wp2
          exact Or.inl ⟨by first | exact Or.inl rfl | exact Or.inr rfl, ⟨_, R3, HS6.out.mono (by omega), HV.out.step HFK.out hR HA.out HD.out (Or.inr HN6.out)⟩, pickU rfl⟩
        --END 1
    · have dB : ((cell : Int) == bay) = false := by simp [hcb]
      have HA : Hid (T.arrd q bay ⟨cell, off, label, -1⟩ = false) := by unfold Hid TS.arrd; simp [hcb]
      clear hfv hcb
      go_wp2
      first | with_reducible refine wp_region_ext2 (by kernel_rfl) (by kernel_rfl) ?_ | refine wp_region_ext (by kernel_rfl) (by kernel_rfl) ?_
      repeat (go_big_quiet_step (fail))
      refine wpQuiet_nil ?_
      rintro w3 ⟨z, hw2⟩
      have hb3 : Below wr.heap.size wr w3 := by rw [hw2]; exact World.below_ext wr z
      have HS3 := hid (HSB.out.below hb3)
      clear hw2 hb3 hMB m0 m1 hml s0 s3 s4 hsl hrl hrc LK FF
      have hMB := HI.out.m.below HS3.out.bl
      have m0 := hMB.c0
      have m1 := hMB.c1
      have hml := hMB.lt
      have s0 : (w3).cell? ⟨sb, 0, none⟩ = some (.int .i64 (q.r)) := HS3.out.s.is 0 (by omega)
      have s3 : (w3).cell? ⟨sb, 3, none⟩ = some (.slice go K gc) := HS3.out.s.is 3 (by omega)
      have s4 : (w3).cell? ⟨sb, 4, none⟩ = some (.int .i64 (q.h)) := HS3.out.s.is 4 (by omega)
      have hsl := HS3.out.s.lt
      have hrl := HS3.out.rd.b.lt
      --BEGIN 2
      by_cases hoH : off = H
      · have dH : ((off : Int) == q.h) = true := by have := HHQ.out; simp; omega
        have HOH := hid hoH
        clear hoH
        go_wp2
        exact Or.inl ⟨by first | exact Or.inl rfl | exact Or.inr rfl, ⟨lb, R, HS3.out.mono (by omega), HV.out.step HFK.out hR HA.out HD.out (Or.inl ⟨HOH.out, rfl⟩)⟩, pickU rfl⟩
      · have dH : ((off : Int) == q.h) = false := by have := HHQ.out; simp; omega
        obtain ⟨nv, hni, hnc⟩ := near_val fb F lab cell hce w0 HI.out.f
        have NR : Hid (∀ w' : World, Below (w3).heap.size w3 w' → Calls Try.prog 32 #[.pointer (some ⟨fb, 0, none⟩), .int .i64 (cell)] w' fun e w'' => e = .returned nv ∧ w'' = w') := fun w' h => hnc w' (KeptL.of_below (HS3.out.bl.trans (h.mono HS3.out.bl.size)))
        have HNI := hid hni
        have HOL : Hid (off + 1 ≤ H) := by unfold Hid; omega
        clear hni hnc hoH
        go_wp2_with (first | (go_at_call 32; refine (NR.out _ (by (repeat (first | with_reducible exact Below.rf _ | with_reducible exact World.below_ext _ _ | with_reducible refine Below.ex ?_ _ | with_reducible refine Below.al ?_ _ | with_reducible refine Below.setCell ?_ (by simp) _ | with_reducible refine Below.drew ?_)))).mono ?_; rintro e w' ⟨rfl, hw'⟩; obtain rfl := hw'.symm) | (at_builtin; refine hold ?_))
        unfold Hid
        have hbb : Below (w3).heap.size w3 ((w3).alloc (.cells #[.int .i64 (cell)] 3)) := by (repeat (first | with_reducible exact Below.rf _ | with_reducible exact World.below_ext _ _ | with_reducible refine Below.ex ?_ _ | with_reducible refine Below.al ?_ _ | with_reducible refine Below.setCell ?_ (by simp) _ | with_reducible refine Below.drew ?_))
        refine wpl_one rfl _ _ rfl (w3).heap.size cell lab nv (F.near cell) rfl rfl (heap_alloc_new _ _) (HNI.out.keptL (A := fun _ => False) (KeptL.of_below (HS3.out.bl.trans (hbb.mono HS3.out.bl.size))) (fun _ h => h.elim)) (by have := HFK.out.nearL cell; have := HFK.out.n; omega) ?_
        intro g gcap w5 hg1 hg2 hg3 hg4 hg5
        have S5 : Sg7 w0 w5 (fun k => if k < (w3).heap.size then lb k else 3) sb rb H mm q (.slice go K gc) R (B + 1) := ((HS3.out.relab (fun k hk => if_pos hk)).below hbb).grown (if_neg (by omega)) hg5
        have HS5 := hid S5
        obtain ⟨nl, hnl⟩ : ∃ y, (F.near cell).length = y := ⟨_, rfl⟩
        have hnl2 : nl ≤ 384 := by have := HFK.out.nearL cell; have := HFK.out.n; omega
        have HG4 : Hid (∀ (j : Nat) (c : Int), ((cell : Int) :: F.near cell)[j]? = some c → w5.cell? ⟨g, j, none⟩ = some (.int .i64 (c)) ∧ 0 ≤ c ∧ c < 384) := fun j c hj => by
          refine ⟨hg4 j c hj, ?_⟩
          have hn := HFK.out.n
          rcases List.mem_cons.1 (List.mem_of_getElem? hj) with rfl | hm
          · omega
          · have := HFK.out.near _ _ hm
            omega
        have HNL : Hid (((cell : Int) :: F.near cell).length = 1 + nl) := by unfold Hid; rw [List.length_cons, hnl]; omega
        have hgl : (fun k => if k < (w3).heap.size then lb k else 3) g = 3 := if_neg (by omega)
        rw [hnl] at hg2 ⊢
        have HGL := hid hgl
        clear hnl hg4 hg5 hbb S5 hgl
        go_wp2
        refine nb_loop w0 w5 lab _ mb sb fb rb H (B + 1) off cell label g (1 + nl) gcap mm M F T q (.slice go K gc) R ((cell : Int) :: F.near cell) HI.out HS5.out HOL.out (by omega) (by omega) (by omega) (by omega) HNL.out (by omega) (by omega) HGL.out hg3 HG4.out _ _ _ _ _ _ _ _ _ _ _ _ _ _ _ _ _ _ _ _ _ _ _ _ _ _ _ _ _ _ _ _ _ _ _ _ _ _ _ _ _ _ _ _ _ _ _ _ _ _ _ _ _ _ _ _ _ _ _ _ _ _ _ _ _ _ _ _ _ _ _ _ _ _ _ _ _ _ _ _ _ _ _ _ _ _ _ _ _ _ _ _ _ _ _ _ _ _ _ _ _ _ _ _ _ _ _ _ _ _ _ _ _ _ _ _ _ _ _ _ _ _ _ _ _ _ _ _ _ _ _ _ _ _ _ _ _ _ _ _ _ _ _ _ _ _ _ _ _ _ _ _ _ _ _ _ _ _ _ _ _ _ _ _ _ _ _ _ _ _ _ _ _ _ _ _ _ _ _ _ _ _ _ _ _ _ _ _ _ _ _ _ _ _ _ _ _ _ _ _ _ _ _ _ _ _ _ _ _ _ _ _ _ _ _ _ _ _ _ _ _ _ _ _ _ _ _ _ _ _ _ _ _ _ _ _ _ _ _ _ _ _ _ _ _ _ _ _ _ _ _ _ _ _ _ _ _ _ _ _ _ _ _ _ _ _ _ _ _ _ _ _ _ _ _ _ _ ?_
        intro aL w6 hE
        obtain ⟨⟨R3, hS6, hN6⟩, hE⟩ := hE
        obtain ⟨UNB, hE⟩ := hE
        obtain rfl := hE
        have HS6 := hid hS6
        have HN6 := hid hN6
        clear hS6 hN6
        go_wp2
        exact Or.inl ⟨by first | exact Or.inl rfl | exact Or.inr rfl, ⟨_, R3, HS6.out.mono (by omega), HV.out.step HFK.out hR HA.out HD.out (Or.inr HN6.out)⟩, pickU rfl⟩
      --END 2
  · --BEGIN 3
    have LK := HS.out.rd.look (i := off) (c := cell) (l := label) (by omega) (by omega) (by omega) false (by simp [hR])
    go_wp2
    exact Or.inl ⟨by first | exact Or.inl rfl | exact Or.inr rfl, ⟨lb, R, HS.out.mono (by omega), HV.out.pass hR⟩, pickU rfl⟩
    --END 3
end Go.Proofs.Qxb6500716a
