/-
  Solve: its loop over the offsets, cut out.
-/
import Derived.Test.Qxb6500716aSg
namespace Go.Proofs.Qxb6500716a
open Go.RowKit Go.Maps
set_option linter.unusedSimpArgs false
set_option linter.unusedVariables false
set_option maxRecDepth 20000
set_option maxHeartbeats 4000000
/-- A code with another body in a block. -/
def setBl (n : Nat) (b : Code) : Code → Code
  | .block m c => if m = n then .block m b else .block m (setBl n b c)
  | .seq x y => .seq (setBl n b x) (setBl n b y)
  | .loop c => .loop (setBl n b c)
  | .scope c => .scope (setBl n b c)
  | .cond o x y => .cond o (setBl n b x) (setBl n b y)
  | c => c
theorem wp_cutB {P : Program} {Q : Exit → Act → World → Prop} {a : Act} {w : World} {C : Code} (n : Nat) (X : Code) (hX : setBl n X C = C) (h : ∀ B : Code, (∀ Q' a' w', Code.wp P X Q' a' w' → Code.wp P B Q' a' w') → Code.wp P (setBl n B C) Q a w) : Code.wp P C Q a w := by
  have := h X (fun _ _ _ h => h)
  rw [hX] at this
  exact this
theorem one_any (w0 wr : World) (lab lb : Nat → Nat) (mb sb fb rb H B K off label cell gc : Nat) (go : Option Addr) (mm : Nat → Nat) (M : TM) (F : FS) (T : TS) (q : Rq) (bay hz : Int) (R : Nat → Nat → Nat → Prop)
    (HI0 : In7 w0 lab mb fb M F T q (.slice go K gc)) (HS0 : Sg7 w0 wr lb sb rb H mm q (.slice go K gc) R B) (HV0 : Svp F T q bay H R off label cell) (hK : q.gl.length = K) (hK16 : K ≤ 16) (hH : (H : Int) = q.h) (hH2 : H ≤ 255) (hof : off ≤ H) (hce : cell < F.n) (hla : label ≤ K) (hBB : B ≤ 700000000) (hhz : (off : Int) ≤ hz) (hbay : 0 ≤ bay ∧ bay < 384) (hgok : F.gok q.gl)
    (x1 x2 x4 x5 x8 x10 x15 x16 x17 x18 x19 x20 x21 x22 x23 x24 x25 x26 x27 x28 x29 x30 x31 x32 x33 x34 x35 x36 x37 x38 x39 x40 x41 x42 x43 x44 x45 x46 x47 x48 x49 x50 x51 x52 x53 x54 x55 x56 x57 x58 x59 x60 x61 x62 x63 x64 x65 x66 x67 x68 x69 x70 x71 x72 x73 x74 x75 x76 x77 x78 x79 x80 x81 x82 x83 x84 x85 x86 x87 x88 x89 x90 x91 x92 x93 x94 x95 x96 x97 x98 x99 x100 x101 x102 x103 x104 x105 x106 x107 x108 x109 x110 x111 x112 x113 x114 x115 x116 x117 x118 x119 x120 x121 x122 x123 x124 x125 x126 x127 x128 x129 x130 x131 x132 x133 x134 x135 x136 x137 x138 x139 x140 x141 x142 x143 x144 x145 x146 x147 x148 x149 x150 x151 x152 x153 x154 x155 x156 x157 x158 x159 x160 x161 x162 x163 x164 x165 x166 x167 x168 x169 x170 x171 x172 x173 x174 x175 x176 x177 x178 x179 x180 x181 x182 x183 x184 x185 x186 x187 x188 x189 x190 x191 x192 x193 x194 x195 x196 x197 x198 x199 x200 x201 x202 x203 x204 x205 x206 x207 x208 x209 x210 x211 x212 x213 x214 x215 x216 x217 x218 x219 x220 x221 x222 x223 x224 x225 x226 x227 x228 x229 x230 x231 x232 x233 x234 x235 x236 x237 x238 x239 x240 x241 x242 x243 x244 x245 x246 x247 x248 x249 x250 x251 x252 x253 x254 x255 x256 x257 x258 x259 x260 x261 x262 x263 x264 x265 x266 x267 x268 x269 x270 x271 x272 x273 x274 x275 x276 x277 x278 x279 x280 x281 x282 x283 x284 x285 : Value) :
    Code.wp Try.prog ((Try.f34.body.bind (findBlock 7)).getD .skip) (oneS w0 sb rb H mm F T q (.slice go K gc) bay hz off label cell B (fun a' => ∃ UBS : Nat → Value, a' = ⟨List.toArray (.pointer (some ⟨mb, 0, none⟩) :: x1 :: x2 :: .pointer (some ⟨sb, 0, none⟩) :: UBS 4 :: UBS 5 :: .int .i64 (K) :: .int .i64 (bay) :: x8 :: (.slice (some ⟨rb, 0, none⟩) (H + 1) (H + 1)) :: x10 :: .int .i64 (off) :: .int .i64 (q.t + off) :: .int .i64 (label) :: .int .i64 (cell) :: UBS 15 :: UBS 16 :: UBS 17 :: x18 :: UBS 19 :: x20 :: x21 :: x22 :: x23 :: x24 :: x25 :: x26 :: x27 :: x28 :: x29 :: x30 :: x31 :: x32 :: x33 :: x34 :: x35 :: x36 :: x37 :: x38 :: x39 :: x40 :: x41 :: x42 :: x43 :: x44 :: x45 :: x46 :: x47 :: x48 :: x49 :: x50 :: x51 :: x52 :: x53 :: x54 :: x55 :: x56 :: x57 :: x58 :: x59 :: x60 :: x61 :: x62 :: x63 :: x64 :: x65 :: x66 :: x67 :: x68 :: x69 :: x70 :: x71 :: x72 :: x73 :: x74 :: x75 :: x76 :: x77 :: x78 :: x79 :: x80 :: x81 :: x82 :: x83 :: x84 :: x85 :: x86 :: x87 :: x88 :: x89 :: x90 :: x91 :: x92 :: x93 :: x94 :: x95 :: x96 :: x97 :: x98 :: x99 :: x100 :: x101 :: x102 :: x103 :: x104 :: x105 :: x106 :: x107 :: x108 :: x109 :: x110 :: x111 :: x112 :: x113 :: x114 :: x115 :: x116 :: x117 :: x118 :: x119 :: x120 :: x121 :: x122 :: x123 :: x124 :: x125 :: x126 :: x127 :: x128 :: x129 :: x130 :: x131 :: x132 :: x133 :: x134 :: x135 :: x136 :: x137 :: x138 :: x139 :: x140 :: x141 :: x142 :: x143 :: x144 :: x145 :: x146 :: x147 :: x148 :: x149 :: x150 :: x151 :: x152 :: x153 :: x154 :: x155 :: x156 :: x157 :: x158 :: x159 :: x160 :: x161 :: UBS 162 :: UBS 163 :: UBS 164 :: UBS 165 :: UBS 166 :: UBS 167 :: UBS 168 :: UBS 169 :: UBS 170 :: UBS 171 :: UBS 172 :: UBS 173 :: UBS 174 :: UBS 175 :: UBS 176 :: UBS 177 :: UBS 178 :: UBS 179 :: UBS 180 :: UBS 181 :: UBS 182 :: UBS 183 :: UBS 184 :: UBS 185 :: UBS 186 :: UBS 187 :: UBS 188 :: UBS 189 :: UBS 190 :: UBS 191 :: UBS 192 :: UBS 193 :: UBS 194 :: UBS 195 :: UBS 196 :: UBS 197 :: UBS 198 :: UBS 199 :: UBS 200 :: UBS 201 :: UBS 202 :: UBS 203 :: UBS 204 :: UBS 205 :: UBS 206 :: UBS 207 :: UBS 208 :: UBS 209 :: UBS 210 :: UBS 211 :: UBS 212 :: UBS 213 :: UBS 214 :: UBS 215 :: UBS 216 :: UBS 217 :: UBS 218 :: UBS 219 :: UBS 220 :: UBS 221 :: UBS 222 :: UBS 223 :: UBS 224 :: UBS 225 :: UBS 226 :: UBS 227 :: UBS 228 :: UBS 229 :: UBS 230 :: UBS 231 :: UBS 232 :: UBS 233 :: UBS 234 :: UBS 235 :: UBS 236 :: UBS 237 :: UBS 238 :: UBS 239 :: UBS 240 :: UBS 241 :: UBS 242 :: UBS 243 :: UBS 244 :: UBS 245 :: UBS 246 :: UBS 247 :: UBS 248 :: UBS 249 :: UBS 250 :: UBS 251 :: UBS 252 :: UBS 253 :: UBS 254 :: UBS 255 :: UBS 256 :: UBS 257 :: UBS 258 :: UBS 259 :: UBS 260 :: UBS 261 :: UBS 262 :: UBS 263 :: UBS 264 :: UBS 265 :: UBS 266 :: UBS 267 :: UBS 268 :: UBS 269 :: UBS 270 :: UBS 271 :: UBS 272 :: UBS 273 :: UBS 274 :: UBS 275 :: UBS 276 :: UBS 277 :: UBS 278 :: UBS 279 :: UBS 280 :: UBS 281 :: UBS 282 :: UBS 283 :: UBS 284 :: UBS 285 :: []), []⟩) (fun a' => ∃ UBR : Nat → Value, a' = ⟨List.toArray (.pointer (some ⟨mb, 0, none⟩) :: x1 :: x2 :: .pointer (some ⟨sb, 0, none⟩) :: (.int .u8 0) :: .int .i64 (q.t + off) :: .int .i64 (K) :: .int .i64 (bay) :: x8 :: (.slice (some ⟨rb, 0, none⟩) (H + 1) (H + 1)) :: x10 :: .int .i64 (off) :: .int .i64 (q.t + off) :: .int .i64 (label) :: .int .i64 (cell) :: UBR 15 :: UBR 16 :: UBR 17 :: x18 :: UBR 19 :: x20 :: x21 :: x22 :: x23 :: x24 :: x25 :: x26 :: x27 :: x28 :: x29 :: x30 :: x31 :: x32 :: x33 :: x34 :: x35 :: x36 :: x37 :: x38 :: x39 :: x40 :: x41 :: x42 :: x43 :: x44 :: x45 :: x46 :: x47 :: x48 :: x49 :: x50 :: x51 :: x52 :: x53 :: x54 :: x55 :: x56 :: x57 :: x58 :: x59 :: x60 :: x61 :: x62 :: x63 :: x64 :: x65 :: x66 :: x67 :: x68 :: x69 :: x70 :: x71 :: x72 :: x73 :: x74 :: x75 :: x76 :: x77 :: x78 :: x79 :: x80 :: x81 :: x82 :: x83 :: x84 :: x85 :: x86 :: x87 :: x88 :: x89 :: x90 :: x91 :: x92 :: x93 :: x94 :: x95 :: x96 :: x97 :: x98 :: x99 :: x100 :: x101 :: x102 :: x103 :: x104 :: x105 :: x106 :: x107 :: x108 :: x109 :: x110 :: x111 :: x112 :: x113 :: x114 :: x115 :: x116 :: x117 :: x118 :: x119 :: x120 :: x121 :: x122 :: x123 :: x124 :: x125 :: x126 :: x127 :: x128 :: x129 :: x130 :: x131 :: x132 :: x133 :: x134 :: x135 :: x136 :: x137 :: x138 :: x139 :: x140 :: x141 :: x142 :: x143 :: x144 :: x145 :: x146 :: x147 :: x148 :: x149 :: x150 :: x151 :: x152 :: x153 :: x154 :: x155 :: x156 :: x157 :: x158 :: x159 :: x160 :: x161 :: UBR 162 :: UBR 163 :: UBR 164 :: UBR 165 :: UBR 166 :: UBR 167 :: UBR 168 :: UBR 169 :: UBR 170 :: UBR 171 :: UBR 172 :: UBR 173 :: UBR 174 :: UBR 175 :: UBR 176 :: UBR 177 :: UBR 178 :: UBR 179 :: UBR 180 :: UBR 181 :: UBR 182 :: UBR 183 :: UBR 184 :: UBR 185 :: UBR 186 :: UBR 187 :: UBR 188 :: UBR 189 :: UBR 190 :: UBR 191 :: UBR 192 :: UBR 193 :: UBR 194 :: UBR 195 :: UBR 196 :: UBR 197 :: UBR 198 :: UBR 199 :: UBR 200 :: UBR 201 :: UBR 202 :: UBR 203 :: UBR 204 :: UBR 205 :: UBR 206 :: UBR 207 :: UBR 208 :: UBR 209 :: UBR 210 :: UBR 211 :: UBR 212 :: UBR 213 :: UBR 214 :: UBR 215 :: UBR 216 :: UBR 217 :: UBR 218 :: UBR 219 :: UBR 220 :: UBR 221 :: UBR 222 :: UBR 223 :: UBR 224 :: UBR 225 :: UBR 226 :: UBR 227 :: UBR 228 :: UBR 229 :: UBR 230 :: UBR 231 :: UBR 232 :: UBR 233 :: UBR 234 :: UBR 235 :: UBR 236 :: UBR 237 :: UBR 238 :: UBR 239 :: UBR 240 :: UBR 241 :: UBR 242 :: UBR 243 :: UBR 244 :: UBR 245 :: UBR 246 :: UBR 247 :: UBR 248 :: UBR 249 :: UBR 250 :: UBR 251 :: UBR 252 :: UBR 253 :: UBR 254 :: UBR 255 :: UBR 256 :: UBR 257 :: UBR 258 :: UBR 259 :: UBR 260 :: UBR 261 :: UBR 262 :: UBR 263 :: UBR 264 :: UBR 265 :: UBR 266 :: UBR 267 :: UBR 268 :: UBR 269 :: UBR 270 :: UBR 271 :: UBR 272 :: UBR 273 :: UBR 274 :: UBR 275 :: UBR 276 :: UBR 277 :: UBR 278 :: UBR 279 :: UBR 280 :: UBR 281 :: UBR 282 :: UBR 283 :: UBR 284 :: UBR 285 :: []), []⟩)) ⟨List.toArray (.pointer (some ⟨mb, 0, none⟩) :: x1 :: x2 :: .pointer (some ⟨sb, 0, none⟩) :: x4 :: x5 :: .int .i64 (K) :: .int .i64 (bay) :: x8 :: (.slice (some ⟨rb, 0, none⟩) (H + 1) (H + 1)) :: x10 :: .int .i64 (off) :: .int .i64 (q.t + off) :: .int .i64 (label) :: .int .i64 (cell) :: x15 :: x16 :: x17 :: x18 :: x19 :: x20 :: x21 :: x22 :: x23 :: x24 :: x25 :: x26 :: x27 :: x28 :: x29 :: x30 :: x31 :: x32 :: x33 :: x34 :: x35 :: x36 :: x37 :: x38 :: x39 :: x40 :: x41 :: x42 :: x43 :: x44 :: x45 :: x46 :: x47 :: x48 :: x49 :: x50 :: x51 :: x52 :: x53 :: x54 :: x55 :: x56 :: x57 :: x58 :: x59 :: x60 :: x61 :: x62 :: x63 :: x64 :: x65 :: x66 :: x67 :: x68 :: x69 :: x70 :: x71 :: x72 :: x73 :: x74 :: x75 :: x76 :: x77 :: x78 :: x79 :: x80 :: x81 :: x82 :: x83 :: x84 :: x85 :: x86 :: x87 :: x88 :: x89 :: x90 :: x91 :: x92 :: x93 :: x94 :: x95 :: x96 :: x97 :: x98 :: x99 :: x100 :: x101 :: x102 :: x103 :: x104 :: x105 :: x106 :: x107 :: x108 :: x109 :: x110 :: x111 :: x112 :: x113 :: x114 :: x115 :: x116 :: x117 :: x118 :: x119 :: x120 :: x121 :: x122 :: x123 :: x124 :: x125 :: x126 :: x127 :: x128 :: x129 :: x130 :: x131 :: x132 :: x133 :: x134 :: x135 :: x136 :: x137 :: x138 :: x139 :: x140 :: x141 :: x142 :: x143 :: x144 :: x145 :: x146 :: x147 :: x148 :: x149 :: x150 :: x151 :: x152 :: x153 :: x154 :: x155 :: x156 :: x157 :: x158 :: x159 :: x160 :: x161 :: x162 :: x163 :: x164 :: x165 :: x166 :: x167 :: x168 :: x169 :: x170 :: x171 :: x172 :: x173 :: x174 :: x175 :: x176 :: x177 :: x178 :: x179 :: x180 :: x181 :: x182 :: x183 :: x184 :: x185 :: x186 :: x187 :: x188 :: x189 :: x190 :: x191 :: x192 :: x193 :: x194 :: x195 :: x196 :: x197 :: x198 :: x199 :: x200 :: x201 :: x202 :: x203 :: x204 :: x205 :: x206 :: x207 :: x208 :: x209 :: x210 :: x211 :: x212 :: x213 :: x214 :: x215 :: x216 :: x217 :: x218 :: x219 :: x220 :: x221 :: x222 :: x223 :: x224 :: x225 :: x226 :: x227 :: x228 :: x229 :: x230 :: x231 :: x232 :: x233 :: x234 :: x235 :: x236 :: x237 :: x238 :: x239 :: x240 :: x241 :: x242 :: x243 :: x244 :: x245 :: x246 :: x247 :: x248 :: x249 :: x250 :: x251 :: x252 :: x253 :: x254 :: x255 :: x256 :: x257 :: x258 :: x259 :: x260 :: x261 :: x262 :: x263 :: x264 :: x265 :: x266 :: x267 :: x268 :: x269 :: x270 :: x271 :: x272 :: x273 :: x274 :: x275 :: x276 :: x277 :: x278 :: x279 :: x280 :: x281 :: x282 :: x283 :: x284 :: x285 :: []), []⟩ wr := by
  by_cases h1 : label = K
  · exact one_K w0 wr lab lb mb sb fb rb H B K off label cell gc go mm M F T q bay hz R HI0 HS0 HV0 hK hK16 hH hH2 hof hce hla hBB hhz hbay h1 x1 x2 x4 x5 x8 x10 x15 x16 x17 x18 x19 x20 x21 x22 x23 x24 x25 x26 x27 x28 x29 x30 x31 x32 x33 x34 x35 x36 x37 x38 x39 x40 x41 x42 x43 x44 x45 x46 x47 x48 x49 x50 x51 x52 x53 x54 x55 x56 x57 x58 x59 x60 x61 x62 x63 x64 x65 x66 x67 x68 x69 x70 x71 x72 x73 x74 x75 x76 x77 x78 x79 x80 x81 x82 x83 x84 x85 x86 x87 x88 x89 x90 x91 x92 x93 x94 x95 x96 x97 x98 x99 x100 x101 x102 x103 x104 x105 x106 x107 x108 x109 x110 x111 x112 x113 x114 x115 x116 x117 x118 x119 x120 x121 x122 x123 x124 x125 x126 x127 x128 x129 x130 x131 x132 x133 x134 x135 x136 x137 x138 x139 x140 x141 x142 x143 x144 x145 x146 x147 x148 x149 x150 x151 x152 x153 x154 x155 x156 x157 x158 x159 x160 x161 x162 x163 x164 x165 x166 x167 x168 x169 x170 x171 x172 x173 x174 x175 x176 x177 x178 x179 x180 x181 x182 x183 x184 x185 x186 x187 x188 x189 x190 x191 x192 x193 x194 x195 x196 x197 x198 x199 x200 x201 x202 x203 x204 x205 x206 x207 x208 x209 x210 x211 x212 x213 x214 x215 x216 x217 x218 x219 x220 x221 x222 x223 x224 x225 x226 x227 x228 x229 x230 x231 x232 x233 x234 x235 x236 x237 x238 x239 x240 x241 x242 x243 x244 x245 x246 x247 x248 x249 x250 x251 x252 x253 x254 x255 x256 x257 x258 x259 x260 x261 x262 x263 x264 x265 x266 x267 x268 x269 x270 x271 x272 x273 x274 x275 x276 x277 x278 x279 x280 x281 x282 x283 x284 x285
  · have hl : label < q.gl.length := by omega
    have hgx : q.gl[label]? = some q.gl[label] := List.getElem?_eq_getElem hl
    have hgb := hgok.2 _ (List.getElem_mem hl)
    by_cases h2 : q.gl[label].1 = (cell : Int)
    · refine one_G w0 wr lab lb mb sb fb rb H B K off label cell gc go mm M F T q bay hz R HI0 HS0 HV0 hK hK16 hH hH2 hof hce hla hBB hhz hbay ⟨by omega, q.gl[label].2.toNat, by omega, ?_⟩ x1 x2 x4 x5 x8 x10 x15 x16 x17 x18 x19 x20 x21 x22 x23 x24 x25 x26 x27 x28 x29 x30 x31 x32 x33 x34 x35 x36 x37 x38 x39 x40 x41 x42 x43 x44 x45 x46 x47 x48 x49 x50 x51 x52 x53 x54 x55 x56 x57 x58 x59 x60 x61 x62 x63 x64 x65 x66 x67 x68 x69 x70 x71 x72 x73 x74 x75 x76 x77 x78 x79 x80 x81 x82 x83 x84 x85 x86 x87 x88 x89 x90 x91 x92 x93 x94 x95 x96 x97 x98 x99 x100 x101 x102 x103 x104 x105 x106 x107 x108 x109 x110 x111 x112 x113 x114 x115 x116 x117 x118 x119 x120 x121 x122 x123 x124 x125 x126 x127 x128 x129 x130 x131 x132 x133 x134 x135 x136 x137 x138 x139 x140 x141 x142 x143 x144 x145 x146 x147 x148 x149 x150 x151 x152 x153 x154 x155 x156 x157 x158 x159 x160 x161 x162 x163 x164 x165 x166 x167 x168 x169 x170 x171 x172 x173 x174 x175 x176 x177 x178 x179 x180 x181 x182 x183 x184 x185 x186 x187 x188 x189 x190 x191 x192 x193 x194 x195 x196 x197 x198 x199 x200 x201 x202 x203 x204 x205 x206 x207 x208 x209 x210 x211 x212 x213 x214 x215 x216 x217 x218 x219 x220 x221 x222 x223 x224 x225 x226 x227 x228 x229 x230 x231 x232 x233 x234 x235 x236 x237 x238 x239 x240 x241 x242 x243 x244 x245 x246 x247 x248 x249 x250 x251 x252 x253 x254 x255 x256 x257 x258 x259 x260 x261 x262 x263 x264 x265 x266 x267 x268 x269 x270 x271 x272 x273 x274 x275 x276 x277 x278 x279 x280 x281 x282 x283 x284 x285
      rw [hgx]
      congr 1
      exact Prod.ext h2 (by simp only; omega)
    · refine one_N w0 wr lab lb mb sb fb rb H B K off label cell gc go mm M F T q bay hz R HI0 HS0 HV0 hK hK16 hH hH2 hof hce hla hBB hhz hbay ⟨by omega, fun g hg => ?_⟩ x1 x2 x4 x5 x8 x10 x15 x16 x17 x18 x19 x20 x21 x22 x23 x24 x25 x26 x27 x28 x29 x30 x31 x32 x33 x34 x35 x36 x37 x38 x39 x40 x41 x42 x43 x44 x45 x46 x47 x48 x49 x50 x51 x52 x53 x54 x55 x56 x57 x58 x59 x60 x61 x62 x63 x64 x65 x66 x67 x68 x69 x70 x71 x72 x73 x74 x75 x76 x77 x78 x79 x80 x81 x82 x83 x84 x85 x86 x87 x88 x89 x90 x91 x92 x93 x94 x95 x96 x97 x98 x99 x100 x101 x102 x103 x104 x105 x106 x107 x108 x109 x110 x111 x112 x113 x114 x115 x116 x117 x118 x119 x120 x121 x122 x123 x124 x125 x126 x127 x128 x129 x130 x131 x132 x133 x134 x135 x136 x137 x138 x139 x140 x141 x142 x143 x144 x145 x146 x147 x148 x149 x150 x151 x152 x153 x154 x155 x156 x157 x158 x159 x160 x161 x162 x163 x164 x165 x166 x167 x168 x169 x170 x171 x172 x173 x174 x175 x176 x177 x178 x179 x180 x181 x182 x183 x184 x185 x186 x187 x188 x189 x190 x191 x192 x193 x194 x195 x196 x197 x198 x199 x200 x201 x202 x203 x204 x205 x206 x207 x208 x209 x210 x211 x212 x213 x214 x215 x216 x217 x218 x219 x220 x221 x222 x223 x224 x225 x226 x227 x228 x229 x230 x231 x232 x233 x234 x235 x236 x237 x238 x239 x240 x241 x242 x243 x244 x245 x246 x247 x248 x249 x250 x251 x252 x253 x254 x255 x256 x257 x258 x259 x260 x261 x262 x263 x264 x265 x266 x267 x268 x269 x270 x271 x272 x273 x274 x275 x276 x277 x278 x279 x280 x281 x282 x283 x284 x285
      rw [hgx] at hg
      obtain rfl := Option.some.inj hg
      exact h2
/-- What the loop leaves. -/
def offS (w0 : World) (F : FS) (T : TS) (q : Rq) (bay hz : Int) (Fr : Act → Prop) (Gr : Int → Act → Prop) (e : Exit) (a' : Act) (w'' : World) : Prop :=
  (e = .exit 2 ∧ Below w0.heap.size w0 w'' ∧ Solved F T q bay hz 4 0 ∧ Fr a') ∨ (e = .ret ∧ Below w0.heap.size w0 w'' ∧ ∃ arr, Solved F T q bay hz 0 arr ∧ Gr arr a')
set_option maxRecDepth 1000000 in
set_option maxHeartbeats 400000000 in
theorem off_loop (w0 w7 : World) (lab lb7 : Nat → Nat) (mb sb fb rb H K gc : Nat) (go : Option Addr) (mm : Nat → Nat) (M : TM) (F : FS) (T : TS) (q : Rq) (bay : Int) (R7 : Nat → Nat → Nat → Prop)
    (HI0 : In7 w0 lab mb fb M F T q (.slice go K gc)) (HS0 : Sg7 w0 w7 lb7 sb rb H mm q (.slice go K gc) R7 386) (HV0 : Svp F T q bay H R7 0 0 0) (hK : q.gl.length = K) (hK16 : K ≤ 16) (hH : (H : Int) = q.h) (hH2 : H ≤ 255) (hbay : 0 ≤ bay ∧ bay < 384) (hgok : F.gok q.gl) (hqt : (T.base : Int) ≤ q.t ∧ q.t < (T.base : Int) + 256)
    (x1 x2 x4 x5 x8 x10 x12 x13 x14 x15 x16 x17 x18 x19 x20 x21 x22 x23 x24 x25 x26 x27 x28 x29 x30 x31 x32 x33 x34 x35 x36 x37 x38 x39 x40 x41 x42 x43 x44 x45 x46 x47 x48 x49 x50 x51 x52 x53 x54 x55 x56 x57 x58 x59 x60 x61 x62 x63 x64 x65 x66 x67 x68 x69 x70 x71 x72 x73 x74 x75 x76 x77 x78 x79 x80 x81 x82 x83 x84 x85 x86 x87 x88 x89 x90 x91 x92 x93 x94 x95 x96 x97 x98 x99 x100 x101 x102 x103 x104 x105 x106 x107 x108 x109 x110 x111 x112 x113 x114 x115 x116 x117 x118 x119 x120 x121 x122 x123 x124 x125 x126 x127 x128 x129 x130 x131 x132 x133 x134 x135 x136 x137 x138 x139 x140 x141 x142 x143 x144 x145 x146 x147 x148 x149 x150 x151 x152 x153 x154 x155 x156 x157 x158 x159 x160 x161 x162 x163 x164 x165 x166 x167 x168 x169 x170 x171 x172 x173 x174 x175 x176 x177 x178 x179 x180 x181 x182 x183 x184 x185 x186 x187 x188 x189 x190 x191 x192 x193 x194 x195 x196 x197 x198 x199 x200 x201 x202 x203 x204 x205 x206 x207 x208 x209 x210 x211 x212 x213 x214 x215 x216 x217 x218 x219 x220 x221 x222 x223 x224 x225 x226 x227 x228 x229 x230 x231 x232 x233 x234 x235 x236 x237 x238 x239 x240 x241 x242 x243 x244 x245 x246 x247 x248 x249 x250 x251 x252 x253 x254 x255 x256 x257 x258 x259 x260 x261 x262 x263 x264 x265 x266 x267 x268 x269 x270 x271 x272 x273 x274 x275 x276 x277 x278 x279 x280 x281 x282 x283 x284 x285 : Value) :
    Code.wp Try.prog ((Try.f34.body.bind (findBlock 2)).getD .skip) (offS w0 F T q bay (q.hz T) (fun a' => ∃ UOF : Nat → Value, a' = ⟨List.toArray (.pointer (some ⟨mb, 0, none⟩) :: x1 :: x2 :: .pointer (some ⟨sb, 0, none⟩) :: UOF 4 :: UOF 5 :: .int .i64 (K) :: .int .i64 (bay) :: x8 :: (.slice (some ⟨rb, 0, none⟩) (H + 1) (H + 1)) :: x10 :: UOF 11 :: UOF 12 :: UOF 13 :: UOF 14 :: UOF 15 :: UOF 16 :: UOF 17 :: x18 :: UOF 19 :: x20 :: x21 :: x22 :: x23 :: x24 :: x25 :: x26 :: x27 :: x28 :: x29 :: x30 :: x31 :: x32 :: x33 :: x34 :: x35 :: x36 :: x37 :: x38 :: x39 :: x40 :: x41 :: x42 :: x43 :: x44 :: x45 :: x46 :: x47 :: x48 :: x49 :: x50 :: x51 :: x52 :: x53 :: x54 :: x55 :: x56 :: x57 :: x58 :: x59 :: x60 :: x61 :: x62 :: x63 :: x64 :: x65 :: x66 :: x67 :: x68 :: x69 :: x70 :: x71 :: x72 :: x73 :: x74 :: x75 :: x76 :: x77 :: x78 :: x79 :: x80 :: x81 :: x82 :: x83 :: x84 :: x85 :: x86 :: x87 :: x88 :: x89 :: x90 :: x91 :: x92 :: x93 :: x94 :: x95 :: x96 :: x97 :: x98 :: x99 :: x100 :: x101 :: x102 :: x103 :: x104 :: x105 :: x106 :: x107 :: x108 :: x109 :: x110 :: x111 :: x112 :: x113 :: x114 :: x115 :: x116 :: x117 :: x118 :: x119 :: x120 :: x121 :: x122 :: x123 :: x124 :: x125 :: UOF 126 :: UOF 127 :: UOF 128 :: UOF 129 :: UOF 130 :: UOF 131 :: UOF 132 :: UOF 133 :: UOF 134 :: UOF 135 :: UOF 136 :: UOF 137 :: UOF 138 :: UOF 139 :: UOF 140 :: UOF 141 :: UOF 142 :: UOF 143 :: UOF 144 :: UOF 145 :: UOF 146 :: UOF 147 :: UOF 148 :: UOF 149 :: UOF 150 :: UOF 151 :: UOF 152 :: UOF 153 :: UOF 154 :: UOF 155 :: UOF 156 :: UOF 157 :: UOF 158 :: UOF 159 :: UOF 160 :: UOF 161 :: UOF 162 :: UOF 163 :: UOF 164 :: UOF 165 :: UOF 166 :: UOF 167 :: UOF 168 :: UOF 169 :: UOF 170 :: UOF 171 :: UOF 172 :: UOF 173 :: UOF 174 :: UOF 175 :: UOF 176 :: UOF 177 :: UOF 178 :: UOF 179 :: UOF 180 :: UOF 181 :: UOF 182 :: UOF 183 :: UOF 184 :: UOF 185 :: UOF 186 :: UOF 187 :: UOF 188 :: UOF 189 :: UOF 190 :: UOF 191 :: UOF 192 :: UOF 193 :: UOF 194 :: UOF 195 :: UOF 196 :: UOF 197 :: UOF 198 :: UOF 199 :: UOF 200 :: UOF 201 :: UOF 202 :: UOF 203 :: UOF 204 :: UOF 205 :: UOF 206 :: UOF 207 :: UOF 208 :: UOF 209 :: UOF 210 :: UOF 211 :: UOF 212 :: UOF 213 :: UOF 214 :: UOF 215 :: UOF 216 :: UOF 217 :: UOF 218 :: UOF 219 :: UOF 220 :: UOF 221 :: UOF 222 :: UOF 223 :: UOF 224 :: UOF 225 :: UOF 226 :: UOF 227 :: UOF 228 :: UOF 229 :: UOF 230 :: UOF 231 :: UOF 232 :: UOF 233 :: UOF 234 :: UOF 235 :: UOF 236 :: UOF 237 :: UOF 238 :: UOF 239 :: UOF 240 :: UOF 241 :: UOF 242 :: UOF 243 :: UOF 244 :: UOF 245 :: UOF 246 :: UOF 247 :: UOF 248 :: UOF 249 :: UOF 250 :: UOF 251 :: UOF 252 :: UOF 253 :: UOF 254 :: UOF 255 :: UOF 256 :: UOF 257 :: UOF 258 :: UOF 259 :: UOF 260 :: UOF 261 :: UOF 262 :: UOF 263 :: UOF 264 :: UOF 265 :: UOF 266 :: UOF 267 :: UOF 268 :: UOF 269 :: UOF 270 :: UOF 271 :: UOF 272 :: UOF 273 :: UOF 274 :: UOF 275 :: UOF 276 :: UOF 277 :: UOF 278 :: UOF 279 :: UOF 280 :: UOF 281 :: UOF 282 :: UOF 283 :: UOF 284 :: UOF 285 :: []), []⟩) (fun arr a' => ∃ UOR : Nat → Value, a' = ⟨List.toArray (.pointer (some ⟨mb, 0, none⟩) :: x1 :: x2 :: .pointer (some ⟨sb, 0, none⟩) :: (.int .u8 0) :: .int .i64 (arr) :: .int .i64 (K) :: .int .i64 (bay) :: x8 :: (.slice (some ⟨rb, 0, none⟩) (H + 1) (H + 1)) :: x10 :: UOR 11 :: UOR 12 :: UOR 13 :: UOR 14 :: UOR 15 :: UOR 16 :: UOR 17 :: x18 :: UOR 19 :: x20 :: x21 :: x22 :: x23 :: x24 :: x25 :: x26 :: x27 :: x28 :: x29 :: x30 :: x31 :: x32 :: x33 :: x34 :: x35 :: x36 :: x37 :: x38 :: x39 :: x40 :: x41 :: x42 :: x43 :: x44 :: x45 :: x46 :: x47 :: x48 :: x49 :: x50 :: x51 :: x52 :: x53 :: x54 :: x55 :: x56 :: x57 :: x58 :: x59 :: x60 :: x61 :: x62 :: x63 :: x64 :: x65 :: x66 :: x67 :: x68 :: x69 :: x70 :: x71 :: x72 :: x73 :: x74 :: x75 :: x76 :: x77 :: x78 :: x79 :: x80 :: x81 :: x82 :: x83 :: x84 :: x85 :: x86 :: x87 :: x88 :: x89 :: x90 :: x91 :: x92 :: x93 :: x94 :: x95 :: x96 :: x97 :: x98 :: x99 :: x100 :: x101 :: x102 :: x103 :: x104 :: x105 :: x106 :: x107 :: x108 :: x109 :: x110 :: x111 :: x112 :: x113 :: x114 :: x115 :: x116 :: x117 :: x118 :: x119 :: x120 :: x121 :: x122 :: x123 :: x124 :: x125 :: UOR 126 :: UOR 127 :: UOR 128 :: UOR 129 :: UOR 130 :: UOR 131 :: UOR 132 :: UOR 133 :: UOR 134 :: UOR 135 :: UOR 136 :: UOR 137 :: UOR 138 :: UOR 139 :: UOR 140 :: UOR 141 :: UOR 142 :: UOR 143 :: UOR 144 :: UOR 145 :: UOR 146 :: UOR 147 :: UOR 148 :: UOR 149 :: UOR 150 :: UOR 151 :: UOR 152 :: UOR 153 :: UOR 154 :: UOR 155 :: UOR 156 :: UOR 157 :: UOR 158 :: UOR 159 :: UOR 160 :: UOR 161 :: UOR 162 :: UOR 163 :: UOR 164 :: UOR 165 :: UOR 166 :: UOR 167 :: UOR 168 :: UOR 169 :: UOR 170 :: UOR 171 :: UOR 172 :: UOR 173 :: UOR 174 :: UOR 175 :: UOR 176 :: UOR 177 :: UOR 178 :: UOR 179 :: UOR 180 :: UOR 181 :: UOR 182 :: UOR 183 :: UOR 184 :: UOR 185 :: UOR 186 :: UOR 187 :: UOR 188 :: UOR 189 :: UOR 190 :: UOR 191 :: UOR 192 :: UOR 193 :: UOR 194 :: UOR 195 :: UOR 196 :: UOR 197 :: UOR 198 :: UOR 199 :: UOR 200 :: UOR 201 :: UOR 202 :: UOR 203 :: UOR 204 :: UOR 205 :: UOR 206 :: UOR 207 :: UOR 208 :: UOR 209 :: UOR 210 :: UOR 211 :: UOR 212 :: UOR 213 :: UOR 214 :: UOR 215 :: UOR 216 :: UOR 217 :: UOR 218 :: UOR 219 :: UOR 220 :: UOR 221 :: UOR 222 :: UOR 223 :: UOR 224 :: UOR 225 :: UOR 226 :: UOR 227 :: UOR 228 :: UOR 229 :: UOR 230 :: UOR 231 :: UOR 232 :: UOR 233 :: UOR 234 :: UOR 235 :: UOR 236 :: UOR 237 :: UOR 238 :: UOR 239 :: UOR 240 :: UOR 241 :: UOR 242 :: UOR 243 :: UOR 244 :: UOR 245 :: UOR 246 :: UOR 247 :: UOR 248 :: UOR 249 :: UOR 250 :: UOR 251 :: UOR 252 :: UOR 253 :: UOR 254 :: UOR 255 :: UOR 256 :: UOR 257 :: UOR 258 :: UOR 259 :: UOR 260 :: UOR 261 :: UOR 262 :: UOR 263 :: UOR 264 :: UOR 265 :: UOR 266 :: UOR 267 :: UOR 268 :: UOR 269 :: UOR 270 :: UOR 271 :: UOR 272 :: UOR 273 :: UOR 274 :: UOR 275 :: UOR 276 :: UOR 277 :: UOR 278 :: UOR 279 :: UOR 280 :: UOR 281 :: UOR 282 :: UOR 283 :: UOR 284 :: UOR 285 :: []), []⟩)) ⟨List.toArray (.pointer (some ⟨mb, 0, none⟩) :: x1 :: x2 :: .pointer (some ⟨sb, 0, none⟩) :: x4 :: x5 :: .int .i64 (K) :: .int .i64 (bay) :: x8 :: (.slice (some ⟨rb, 0, none⟩) (H + 1) (H + 1)) :: x10 :: .int .i64 (0) :: x12 :: x13 :: x14 :: x15 :: x16 :: x17 :: x18 :: x19 :: x20 :: x21 :: x22 :: x23 :: x24 :: x25 :: x26 :: x27 :: x28 :: x29 :: x30 :: x31 :: x32 :: x33 :: x34 :: x35 :: x36 :: x37 :: x38 :: x39 :: x40 :: x41 :: x42 :: x43 :: x44 :: x45 :: x46 :: x47 :: x48 :: x49 :: x50 :: x51 :: x52 :: x53 :: x54 :: x55 :: x56 :: x57 :: x58 :: x59 :: x60 :: x61 :: x62 :: x63 :: x64 :: x65 :: x66 :: x67 :: x68 :: x69 :: x70 :: x71 :: x72 :: x73 :: x74 :: x75 :: x76 :: x77 :: x78 :: x79 :: x80 :: x81 :: x82 :: x83 :: x84 :: x85 :: x86 :: x87 :: x88 :: x89 :: x90 :: x91 :: x92 :: x93 :: x94 :: x95 :: x96 :: x97 :: x98 :: x99 :: x100 :: x101 :: x102 :: x103 :: x104 :: x105 :: x106 :: x107 :: x108 :: x109 :: x110 :: x111 :: x112 :: x113 :: x114 :: x115 :: x116 :: x117 :: x118 :: x119 :: x120 :: x121 :: x122 :: x123 :: x124 :: x125 :: x126 :: x127 :: x128 :: x129 :: x130 :: x131 :: x132 :: x133 :: x134 :: x135 :: x136 :: x137 :: x138 :: x139 :: x140 :: x141 :: x142 :: x143 :: x144 :: x145 :: x146 :: x147 :: x148 :: x149 :: x150 :: x151 :: x152 :: x153 :: x154 :: x155 :: x156 :: x157 :: x158 :: x159 :: x160 :: x161 :: x162 :: x163 :: x164 :: x165 :: x166 :: x167 :: x168 :: x169 :: x170 :: x171 :: x172 :: x173 :: x174 :: x175 :: x176 :: x177 :: x178 :: x179 :: x180 :: x181 :: x182 :: x183 :: x184 :: x185 :: x186 :: x187 :: x188 :: x189 :: x190 :: x191 :: x192 :: x193 :: x194 :: x195 :: x196 :: x197 :: x198 :: x199 :: x200 :: x201 :: x202 :: x203 :: x204 :: x205 :: x206 :: x207 :: x208 :: x209 :: x210 :: x211 :: x212 :: x213 :: x214 :: x215 :: x216 :: x217 :: x218 :: x219 :: x220 :: x221 :: x222 :: x223 :: x224 :: x225 :: x226 :: x227 :: x228 :: x229 :: x230 :: x231 :: x232 :: x233 :: x234 :: x235 :: x236 :: x237 :: x238 :: x239 :: x240 :: x241 :: x242 :: x243 :: x244 :: x245 :: x246 :: x247 :: x248 :: x249 :: x250 :: x251 :: x252 :: x253 :: x254 :: x255 :: x256 :: x257 :: x258 :: x259 :: x260 :: x261 :: x262 :: x263 :: x264 :: x265 :: x266 :: x267 :: x268 :: x269 :: x270 :: x271 :: x272 :: x273 :: x274 :: x275 :: x276 :: x277 :: x278 :: x279 :: x280 :: x281 :: x282 :: x283 :: x284 :: x285 :: []), []⟩ w7 := by
  conv => arg 2; whnf
  have HI := hid HI0
  have HS7 := hid HS0
  have HV7 := hid HV0
  have HKL := hid hK
  have HHQ := hid hH
  have HGO := hid hgok
  have hn384 := HI0.f.ok.n
  have hbase := HI0.t.bd.base
  obtain ⟨hz, hhz⟩ : ∃ y, q.hz T = y := ⟨_, rfl⟩
  rw [hhz]
  have HHZ : Hid (hz = min q.h ((T.base : Int) + 255 - q.t)) := by unfold Hid; rw [← hhz]; rfl
  obtain ⟨fn, hfn⟩ : ∃ y, F.n = y := ⟨_, rfl⟩
  rw [hfn] at hn384
  have HFN := hid hfn
  clear HI0 HS0 HV0 hK hH hgok hhz hfn
  go_loopw [11] (fun v wr => ∃ (off u : Nat) (lb : Nat → Nat) (R : Nat → Nat → Nat → Prop), v = .int .i64 (off) ∧ off ≤ H + 1 ∧ Sg7 w0 wr lb sb rb H mm q (.slice go K gc) R (386 * u) ∧ Svp F T q bay H R off 0 0 ∧ u ≤ off * 6528 + 1) (fun v _ => H + 1 - (intOf v).toNat)
  case atStart => exact ⟨0, 1, lb7, R7, rfl, Nat.zero_le _, HS7.out, HV7.out, by omega⟩
  case round =>
    obtain ⟨off, u, lb, R, rfl, ho, hS, hV, hu⟩ := hrel
    have HS := hid hS
    have HV := hid hV
    clear hS hV
    have hMB := HI.out.m.below HS.out.bl
    have m1 := hMB.c1
    have hml := hMB.lt
    have s2 : wr.cell? ⟨sb, 2, none⟩ = some (.int .i64 (q.t)) := HS.out.s.is 2 (by omega)
    have s4 : wr.cell? ⟨sb, 4, none⟩ = some (.int .i64 (q.h)) := HS.out.s.is 4 (by omega)
    have hsl := HS.out.s.lt
    have EN : Hid (∀ w' : World, Below wr.heap.size wr w' → Calls Try.prog 25 #[.pointer (some ⟨M.t, 0, none⟩)] w' fun e w'' => e = .returned (.int .i64 ((T.base : Int) + 256)) ∧ w'' = w') := fun w' h => end_any M T lab w' (HI.out.t.below (HS.out.bl.trans (h.mono HS.out.bl.size)))
    clear hMB
    by_cases hoH : off ≤ H
    · have d1 : decide ((off : Int) ≤ q.h) = true := by have := HHQ.out; simp; omega
      by_cases hoE : q.t + off < (T.base : Int) + 256
      · --BEGIN 1
        have d2 : decide (q.t + (off : Int) < (T.base : Int) + 256) = true := by simp; omega
        have HOZ : Hid ((off : Int) ≤ hz) := by unfold Hid; have := HHQ.out; rw [HHZ.out]; omega
        go_wp2
        first | with_reducible refine wp_region_ext2 (by kernel_rfl) (by kernel_rfl) ?_ | refine wp_region_ext (by kernel_rfl) (by kernel_rfl) ?_
        repeat (go_big_quiet_step ((go_at_call 25; exact Calls.ext_of_same (EN.out _ (by (repeat (first | with_reducible exact Below.rf _ | with_reducible exact World.below_ext _ _ | with_reducible refine Below.ex ?_ _ | with_reducible refine Below.al ?_ _ | with_reducible refine Below.setCell ?_ (by simp) _ | with_reducible refine Below.drew ?_)))))))
        refine wpQuiet_nil ?_
        rintro w3 ⟨z, hw2⟩
        have hb3 : Below wr.heap.size wr w3 := by rw [hw2]; exact World.below_ext wr z
        have HS3 := hid (HS.out.below hb3)
        have s2' := (World.cell?_of_block (hb3.block sb hsl)).trans s2
        have hsl' := Nat.lt_of_lt_of_le hsl hb3.size
        clear hw2 hb3 m1 hml s2 s4 hsl EN HS
        go_wp2
        obtain ⟨wo, rfl⟩ : ∃ y, y = wr := ⟨_, rfl⟩
        go_loopw [13] (fun v wr => ∃ (label u : Nat) (lb : Nat → Nat) (R : Nat → Nat → Nat → Prop), v = .int .i64 (label) ∧ label ≤ K + 1 ∧ Sg7 w0 wr lb sb rb H mm q (.slice go K gc) R (386 * u) ∧ Svp F T q bay H R off label 0 ∧ u ≤ off * 6528 + label * 384 + 1) (fun v _ => K + 1 - (intOf v).toNat)
        case atStart => exact ⟨0, u, lb, R, rfl, Nat.zero_le _, HS3.out, HV.out, by omega⟩
        case round =>
          clear hu HS3 HV s2' hsl'
          obtain ⟨label, u, lb, R, rfl, hl, hS, hV, hu⟩ := hrel
          have HS := hid hS
          have HV := hid hV
          clear hS hV
          by_cases hlK : label ≤ K
          · have d3 : decide ((label : Int) ≤ (K : Int)) = true := by simp; omega
            have d3n : decide (label ≤ K) = true := by simp; omega
            go_wp2
            obtain ⟨wo2, rfl⟩ : ∃ y, y = wr := ⟨_, rfl⟩
            go_loopw [14] (fun v wr => ∃ (cell u : Nat) (lb : Nat → Nat) (R : Nat → Nat → Nat → Prop), v = .int .i64 (cell) ∧ cell ≤ fn ∧ Sg7 w0 wr lb sb rb H mm q (.slice go K gc) R (386 * u) ∧ Svp F T q bay H R off label cell ∧ u ≤ off * 6528 + label * 384 + cell + 1) (fun v _ => fn - (intOf v).toNat)
            case atStart => exact ⟨0, u, lb, R, rfl, Nat.zero_le _, HS.out, HV.out, by omega⟩
            case round =>
              clear hu HS HV
              obtain ⟨cell, u, lb, R, rfl, hc, hS, hV, hu⟩ := hrel
              have HS := hid hS
              have HV := hid hV
              have m0 := (HI.out.m.below hS.bl).c0
              have hml := (HI.out.m.below hS.bl).lt
              have CL : Hid (∀ w' : World, Below wr.heap.size wr w' → Calls Try.prog 30 #[.pointer (some ⟨fb, 0, none⟩)] w' fun e w'' => e = .returned (.int .i64 (fn)) ∧ w'' = w') := fun w' h => by
                have := cells_any fb F lab w' (HI.out.f.below (HS.out.bl.trans (h.mono HS.out.bl.size)))
                rw [HFN.out] at this
                exact this
              clear hS hV
              by_cases hcn : cell < fn
              · --BEGIN 2
                have dc : decide ((cell : Int) < (fn : Int)) = true := by simp; omega
                have dcn : decide (cell < fn) = true := by simp; omega
                refine wp_cutB 7 ((Try.f34.body.bind (findBlock 7)).getD .skip) (by kernel_rfl) ?_
                intro BB hBB
                simp only [setBl]
                go_wp2_with (first | (go_at_call 30; refine (CL.out _ (by (repeat (first | with_reducible exact Below.rf _ | with_reducible exact World.below_ext _ _ | with_reducible refine Below.ex ?_ _ | with_reducible refine Below.al ?_ _ | with_reducible refine Below.setCell ?_ (by simp) _ | with_reducible refine Below.drew ?_)))).mono ?_; rintro e w' ⟨rfl, hw'⟩; obtain rfl := hw'.symm))
                refine hBB _ _ _ ?_
                refine wp_mono (one_any w0 wr lab lb mb sb fb rb H (386 * u) K off label cell gc go mm M F T q bay hz R HI.out HS.out HV.out HKL.out hK16 HHQ.out hH2 hoH (by rw [HFN.out]; exact hcn) hlK (by omega) HOZ.out hbay HGO.out _ _ _ _ _ _ _ _ _ _ _ _ _ _ _ _ _ _ _ _ _ _ _ _ _ _ _ _ _ _ _ _ _ _ _ _ _ _ _ _ _ _ _ _ _ _ _ _ _ _ _ _ _ _ _ _ _ _ _ _ _ _ _ _ _ _ _ _ _ _ _ _ _ _ _ _ _ _ _ _ _ _ _ _ _ _ _ _ _ _ _ _ _ _ _ _ _ _ _ _ _ _ _ _ _ _ _ _ _ _ _ _ _ _ _ _ _ _ _ _ _ _ _ _ _ _ _ _ _ _ _ _ _ _ _ _ _ _ _ _ _ _ _ _ _ _ _ _ _ _ _ _ _ _ _ _ _ _ _ _ _ _ _ _ _ _ _ _ _ _ _ _ _ _ _ _ _ _ _ _ _ _ _ _ _ _ _ _ _ _ _ _ _ _ _ _ _ _ _ _ _ _ _ _ _ _ _ _ _ _ _ _ _ _ _ _ _ _ _ _ _ _ _ _ _ _ _ _ _ _ _ _ _ _ _ _ _ _ _ _ _ _ _ _ _ _ _ _ _ _ _ _ _ _ _ _ _ _ _ _ _ _ _ _ _ _ _ _ _ _ _ _ _ _ _ _ _) ?_
                intro e a' w'' hE
                rcases hE with ⟨he, ⟨lb2, R2, hS2, hV2⟩, hE⟩ | ⟨rfl, hB2, hSo, hE⟩
                · obtain ⟨UBS, hE⟩ := hE
                  obtain rfl := hE
                  have HS2 := hid hS2
                  have HV2 := hid hV2
                  clear hS2 hV2 HS HV m0 hml CL
                  rcases he with rfl | rfl
                  · go_wp2
                    go_roundw
                    case rel => exact ⟨cell + 1, u + 1, lb2, R2, by go_num, by omega, by rw [Nat.mul_add]; exact HS2.out, HV2.out, by omega⟩
                    case measure => (simp [intOf] <;> omega)
                  · go_wp2
                    go_roundw
                    case rel => exact ⟨cell + 1, u + 1, lb2, R2, by go_num, by omega, by rw [Nat.mul_add]; exact HS2.out, HV2.out, by omega⟩
                    case measure => (simp [intOf] <;> omega)
                · obtain ⟨UBR, hE⟩ := hE
                  obtain rfl := hE
                  exact Or.inr ⟨rfl, hB2, _, hSo, pickU rfl⟩
                --END 2
              · --BEGIN 3
                have dc : decide ((cell : Int) < (fn : Int)) = false := by simp; omega
                have dcn : decide (cell < fn) = false := by simp; omega
                have HV2 : Hid (Svp F T q bay H R off (label + 1) 0) := HV.out.row (by rw [HFN.out]; omega)
                go_wp2_with (first | (go_at_call 30; refine (CL.out _ (by (repeat (first | with_reducible exact Below.rf _ | with_reducible exact World.below_ext _ _ | with_reducible refine Below.ex ?_ _ | with_reducible refine Below.al ?_ _ | with_reducible refine Below.setCell ?_ (by simp) _ | with_reducible refine Below.drew ?_)))).mono ?_; rintro e w' ⟨rfl, hw'⟩; obtain rfl := hw'.symm))
                go_roundw
                case rel => exact ⟨label + 1, u, lb, R, by go_num, by omega, HS.out, HV2.out, by omega⟩
                case measure => (simp [intOf] <;> omega)
                --END 3
          · --BEGIN 4
            have d3 : decide ((label : Int) ≤ (K : Int)) = false := by simp; omega
            have d3n : decide (label ≤ K) = false := by simp; omega
            have HV2 : Hid (Svp F T q bay H R (off + 1) 0 0) := HV.out.tick (by rw [HKL.out]; omega)
            go_wp2
            go_roundw
            case rel => exact ⟨off + 1, u, lb, R, by go_num, by omega, HS.out, HV2.out, by omega⟩
            case measure => (simp [intOf] <;> omega)
            --END 4
        --END 1
      · --BEGIN 5
        have d2 : decide (q.t + (off : Int) < (T.base : Int) + 256) = false := by simp; omega
        have HSO : Hid (Solved F T q bay hz 4 0) := HV.out.none (by omega) (by have := HHQ.out; rw [HHZ.out]; omega)
        go_wp2
        first | with_reducible refine wp_region_ext2 (by kernel_rfl) (by kernel_rfl) ?_ | refine wp_region_ext (by kernel_rfl) (by kernel_rfl) ?_
        repeat (go_big_quiet_step ((go_at_call 25; exact Calls.ext_of_same (EN.out _ (by (repeat (first | with_reducible exact Below.rf _ | with_reducible exact World.below_ext _ _ | with_reducible refine Below.ex ?_ _ | with_reducible refine Below.al ?_ _ | with_reducible refine Below.setCell ?_ (by simp) _ | with_reducible refine Below.drew ?_)))))))
        refine wpQuiet_nil ?_
        rintro w3 ⟨z, hw2⟩
        have HB3 : Hid (Below w0.heap.size w0 w3) := HS.out.bl.trans (Below.mono (by rw [hw2]; exact World.below_ext wr z) HS.out.bl.size)
        clear hw2
        go_wp2
        exact Or.inl ⟨rfl, HB3.out, HSO.out, pickU rfl⟩
        --END 5
    · --BEGIN 6
      have d1 : decide ((off : Int) ≤ q.h) = false := by have := HHQ.out; simp; omega
      have HSO : Hid (Solved F T q bay hz 4 0) := HV.out.none (by omega) (by have := HHQ.out; rw [HHZ.out]; omega)
      go_wp2
      first | with_reducible refine wp_region_ext2 (by kernel_rfl) (by kernel_rfl) ?_ | refine wp_region_ext (by kernel_rfl) (by kernel_rfl) ?_
      repeat (go_big_quiet_step (fail))
      refine wpQuiet_nil ?_
      rintro w3 ⟨z, hw2⟩
      have HB3 : Hid (Below w0.heap.size w0 w3) := HS.out.bl.trans (Below.mono (by rw [hw2]; exact World.below_ext wr z) HS.out.bl.size)
      clear hw2
      go_wp2
      exact Or.inl ⟨rfl, HB3.out, HSO.out, pickU rfl⟩
      --END 6
end Go.Proofs.Qxb6500716a
