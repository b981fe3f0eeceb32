/-
  floorm.New: its loop over the ways, cut out.
-/
import Derived.Test.Qxb6500716aFm
namespace Go.Proofs.Qxb6500716a
open Go.RowKit Go.Maps
set_option linter.unusedSimpArgs false
set_option linter.unusedVariables false
set_option maxRecDepth 20000
set_option maxHeartbeats 4000000

/-- A block of a code, by its number. -/
def findBlock (n : Nat) : Code → Option Code
  | .block m c => if m = n then some c else findBlock n c
  | .seq a b => match findBlock n a with
    | some c => some c
    | none => findBlock n b
  | .loop c => findBlock n c
  | .scope c => findBlock n c
  | .cond _ a b => match findBlock n a with
    | some c => some c
    | none => findBlock n b
  | _ => none
/-- What the loop leaves. -/
structure FwEnd (A P k r mo fb N nb db n : Nat) (w wr : World) (lb2 : Nat → Nat) (bo : Option Addr) (bc : Nat) (po : Option Addr) (pc : Nat) (bl pl : List (Int × Int)) (c1 : Value) (nv2 : Nat → Value) (dr2 : Nat → Nat) (v : Nat) : Prop where
  f : NwF A P k r mo fb w wr lb2 (.slice bo n bc) bl (.slice po N pc) c1 (.slice (some ⟨nb, 0, none⟩) N N) (.slice (some ⟨db, 0, none⟩) N N)
  l : LAt wr lb2 7 1 c1 (bayP pl bl n).length (irow (bayP pl bl n))
  d : NwD N nb db wr lb2 nv2 (fun x => if x < N then nearP pl bl x N else []) dr2 N (fwN (dist0 pl bl) v)
set_option maxRecDepth 1000000 in
set_option maxHeartbeats 400000000 in
theorem fw_loop (a P k r mo fb N nb db n : Nat) (w wr : World) (lb2 : Nat → Nat) (bo : Option Addr) (bc : Nat) (po : Option Addr) (pc : Nat) (bl pl : List (Int × Int)) (c1 : Value) (nv2 : Nat → Value) (dr2 : Nat → Nat) (hN384 : 1 ≤ N ∧ N ≤ 384) (hJ : FwEnd a P k r mo fb N nb db n w wr lb2 bo bc po pc bl pl c1 nv2 dr2 0)
    (Q0 : Exit → Act → World → Prop) (x0 x1 x2 x3 x4 x5 x6 x7 x8 x9 x10 x11 x12 x13 x14 x15 x16 x17 x18 x19 x21 x22 x23 x24 x25 x26 x28 x29 x30 x31 x32 x33 x35 x36 x37 x38 x39 x40 x41 x42 x43 x44 x45 x46 x47 x48 x49 x50 x51 x52 x53 x54 x55 x56 x57 x58 x59 x60 x61 x62 x63 x64 x65 x66 x67 x68 x69 x70 x71 x72 x73 x74 x75 x76 x77 x78 x79 x80 x81 x82 x83 x84 x85 x86 x87 x88 x89 x90 x91 x92 x93 x94 x95 x96 x97 x98 x99 x100 x101 x102 x103 x104 x105 x106 x107 x108 x109 x110 x111 x112 x113 x114 x115 x116 x117 x118 x119 x120 x121 x122 x123 x124 x125 x126 x127 x128 x129 x130 x131 x132 x133 x134 x135 x136 x137 x138 x139 x140 x141 x142 x143 x144 x145 x146 x147 x148 x149 x150 x151 x152 x153 x154 x155 x156 x157 x158 x159 x160 x161 x162 x163 x164 x165 x166 x167 x168 x169 x170 x171 x172 x173 x174 x175 x176 x177 x178 x179 x180 x181 x182 x183 x184 x185 x186 x187 x188 x189 x190 x191 x192 x193 x194 x195 x196 x197 x198 x199 x200 x201 x202 x203 x204 x205 x206 x207 x208 x209 x210 x211 x212 x213 x214 x215 x216 x217 x218 x219 x220 x221 x222 x223 x224 x225 x226 x227 x228 x229 x230 x231 x232 x233 x234 x235 x236 x237 x238 x239 x240 x241 x242 x243 x244 x245 x246 x247 x248 x249 x250 x251 x252 x253 x254 x255 x256 x257 x258 x259 x260 x261 x262 x263 x264 x265 x266 x267 x268 x269 x270 x271 x272 x273 x274 x275 x276 x277 x278 x279 x280 x281 x282 x283 x284 x285 x286 x287 x288 x289 x290 x291 x292 x293 x294 x295 x296 x297 x298 x299 x300 x301 x302 x303 x304 x305 x306 x307 x308 x309 x310 x311 x312 x313 x314 x315 x316 x317 x318 x319 x320 x321 x322 x323 x324 x325 x326 x327 x328 x329 x330 x331 x332 x333 x334 x335 x336 x337 x338 x339 x340 x341 x342 x343 x344 x345 x346 x347 x348 x349 x350 x351 x352 x353 x354 x355 x356 x357 x358 x359 x360 x361 x362 x363 x364 x365 x366 x367 x368 x369 x370 x371 x372 x373 x374 x375 x376 x377 x378 x379 x380 x381 : Value)
    (hexit : ∀ (a' : Act) (w'' : World), (FwEnd a P k r mo fb N nb db n w w'' lb2 bo bc po pc bl pl c1 nv2 dr2 N ∧ ∃ u34 u35 u36 u325 u326 u327 u328 u329 u330 u331 u332 u333 u334 u335 u336 u337 u338 u339 u340 u341 u342 u343 u344 u345 u346 u347 u348 u349 u350 u351 u352 u353 u354 u355 u356 u357 u358 u359 u360 u361 u362 u363 u364 u365 u366 u367 u368 u369 u370 u371 u372 u373 u374 u375 u376 u377 u378 u379 u380 : Value, a' = ⟨List.toArray (x0 :: x1 :: x2 :: x3 :: x4 :: x5 :: x6 :: x7 :: x8 :: x9 :: x10 :: x11 :: x12 :: x13 :: x14 :: x15 :: x16 :: x17 :: x18 :: x19 :: .pointer (some ⟨fb, 0, none⟩) :: x21 :: x22 :: x23 :: x24 :: x25 :: x26 :: .int .i64 (N) :: x28 :: x29 :: x30 :: x31 :: x32 :: x33 :: u34 :: u35 :: u36 :: x37 :: x38 :: x39 :: x40 :: x41 :: x42 :: x43 :: x44 :: x45 :: x46 :: x47 :: x48 :: x49 :: x50 :: x51 :: x52 :: x53 :: x54 :: x55 :: x56 :: x57 :: x58 :: x59 :: x60 :: x61 :: x62 :: x63 :: x64 :: x65 :: x66 :: x67 :: x68 :: x69 :: x70 :: x71 :: x72 :: x73 :: x74 :: x75 :: x76 :: x77 :: x78 :: x79 :: x80 :: x81 :: x82 :: x83 :: x84 :: x85 :: x86 :: x87 :: x88 :: x89 :: x90 :: x91 :: x92 :: x93 :: x94 :: x95 :: x96 :: x97 :: x98 :: x99 :: x100 :: x101 :: x102 :: x103 :: x104 :: x105 :: x106 :: x107 :: x108 :: x109 :: x110 :: x111 :: x112 :: x113 :: x114 :: x115 :: x116 :: x117 :: x118 :: x119 :: x120 :: x121 :: x122 :: x123 :: x124 :: x125 :: x126 :: x127 :: x128 :: x129 :: x130 :: x131 :: x132 :: x133 :: x134 :: x135 :: x136 :: x137 :: x138 :: x139 :: x140 :: x141 :: x142 :: x143 :: x144 :: x145 :: x146 :: x147 :: x148 :: x149 :: x150 :: x151 :: x152 :: x153 :: x154 :: x155 :: x156 :: x157 :: x158 :: x159 :: x160 :: x161 :: x162 :: x163 :: x164 :: x165 :: x166 :: x167 :: x168 :: x169 :: x170 :: x171 :: x172 :: x173 :: x174 :: x175 :: x176 :: x177 :: x178 :: x179 :: x180 :: x181 :: x182 :: x183 :: x184 :: x185 :: x186 :: x187 :: x188 :: x189 :: x190 :: x191 :: x192 :: x193 :: x194 :: x195 :: x196 :: x197 :: x198 :: x199 :: x200 :: x201 :: x202 :: x203 :: x204 :: x205 :: x206 :: x207 :: x208 :: x209 :: x210 :: x211 :: x212 :: x213 :: x214 :: x215 :: x216 :: x217 :: x218 :: x219 :: x220 :: x221 :: x222 :: x223 :: x224 :: x225 :: x226 :: x227 :: x228 :: x229 :: x230 :: x231 :: x232 :: x233 :: x234 :: x235 :: x236 :: x237 :: x238 :: x239 :: x240 :: x241 :: x242 :: x243 :: x244 :: x245 :: x246 :: x247 :: x248 :: x249 :: x250 :: x251 :: x252 :: x253 :: x254 :: x255 :: x256 :: x257 :: x258 :: x259 :: x260 :: x261 :: x262 :: x263 :: x264 :: x265 :: x266 :: x267 :: x268 :: x269 :: x270 :: x271 :: x272 :: x273 :: x274 :: x275 :: x276 :: x277 :: x278 :: x279 :: x280 :: x281 :: x282 :: x283 :: x284 :: x285 :: x286 :: x287 :: x288 :: x289 :: x290 :: x291 :: x292 :: x293 :: x294 :: x295 :: x296 :: x297 :: x298 :: x299 :: x300 :: x301 :: x302 :: x303 :: x304 :: x305 :: x306 :: x307 :: x308 :: x309 :: x310 :: x311 :: x312 :: x313 :: x314 :: x315 :: x316 :: x317 :: x318 :: x319 :: x320 :: x321 :: x322 :: x323 :: x324 :: u325 :: u326 :: u327 :: u328 :: u329 :: u330 :: u331 :: u332 :: u333 :: u334 :: u335 :: u336 :: u337 :: u338 :: u339 :: u340 :: u341 :: u342 :: u343 :: u344 :: u345 :: u346 :: u347 :: u348 :: u349 :: u350 :: u351 :: u352 :: u353 :: u354 :: u355 :: u356 :: u357 :: u358 :: u359 :: u360 :: u361 :: u362 :: u363 :: u364 :: u365 :: u366 :: u367 :: u368 :: u369 :: u370 :: u371 :: u372 :: u373 :: u374 :: u375 :: u376 :: u377 :: u378 :: u379 :: u380 :: x381 :: []), []⟩) → Q0 (.exit 20) a' w'') :
    Code.wp Try.prog ((Try.f46.body.bind (findBlock 20)).getD .skip) Q0 ⟨List.toArray (x0 :: x1 :: x2 :: x3 :: x4 :: x5 :: x6 :: x7 :: x8 :: x9 :: x10 :: x11 :: x12 :: x13 :: x14 :: x15 :: x16 :: x17 :: x18 :: x19 :: .pointer (some ⟨fb, 0, none⟩) :: x21 :: x22 :: x23 :: x24 :: x25 :: x26 :: .int .i64 (N) :: x28 :: x29 :: x30 :: x31 :: x32 :: x33 :: .int .i64 ((0 : Nat)) :: x35 :: x36 :: x37 :: x38 :: x39 :: x40 :: x41 :: x42 :: x43 :: x44 :: x45 :: x46 :: x47 :: x48 :: x49 :: x50 :: x51 :: x52 :: x53 :: x54 :: x55 :: x56 :: x57 :: x58 :: x59 :: x60 :: x61 :: x62 :: x63 :: x64 :: x65 :: x66 :: x67 :: x68 :: x69 :: x70 :: x71 :: x72 :: x73 :: x74 :: x75 :: x76 :: x77 :: x78 :: x79 :: x80 :: x81 :: x82 :: x83 :: x84 :: x85 :: x86 :: x87 :: x88 :: x89 :: x90 :: x91 :: x92 :: x93 :: x94 :: x95 :: x96 :: x97 :: x98 :: x99 :: x100 :: x101 :: x102 :: x103 :: x104 :: x105 :: x106 :: x107 :: x108 :: x109 :: x110 :: x111 :: x112 :: x113 :: x114 :: x115 :: x116 :: x117 :: x118 :: x119 :: x120 :: x121 :: x122 :: x123 :: x124 :: x125 :: x126 :: x127 :: x128 :: x129 :: x130 :: x131 :: x132 :: x133 :: x134 :: x135 :: x136 :: x137 :: x138 :: x139 :: x140 :: x141 :: x142 :: x143 :: x144 :: x145 :: x146 :: x147 :: x148 :: x149 :: x150 :: x151 :: x152 :: x153 :: x154 :: x155 :: x156 :: x157 :: x158 :: x159 :: x160 :: x161 :: x162 :: x163 :: x164 :: x165 :: x166 :: x167 :: x168 :: x169 :: x170 :: x171 :: x172 :: x173 :: x174 :: x175 :: x176 :: x177 :: x178 :: x179 :: x180 :: x181 :: x182 :: x183 :: x184 :: x185 :: x186 :: x187 :: x188 :: x189 :: x190 :: x191 :: x192 :: x193 :: x194 :: x195 :: x196 :: x197 :: x198 :: x199 :: x200 :: x201 :: x202 :: x203 :: x204 :: x205 :: x206 :: x207 :: x208 :: x209 :: x210 :: x211 :: x212 :: x213 :: x214 :: x215 :: x216 :: x217 :: x218 :: x219 :: x220 :: x221 :: x222 :: x223 :: x224 :: x225 :: x226 :: x227 :: x228 :: x229 :: x230 :: x231 :: x232 :: x233 :: x234 :: x235 :: x236 :: x237 :: x238 :: x239 :: x240 :: x241 :: x242 :: x243 :: x244 :: x245 :: x246 :: x247 :: x248 :: x249 :: x250 :: x251 :: x252 :: x253 :: x254 :: x255 :: x256 :: x257 :: x258 :: x259 :: x260 :: x261 :: x262 :: x263 :: x264 :: x265 :: x266 :: x267 :: x268 :: x269 :: x270 :: x271 :: x272 :: x273 :: x274 :: x275 :: x276 :: x277 :: x278 :: x279 :: x280 :: x281 :: x282 :: x283 :: x284 :: x285 :: x286 :: x287 :: x288 :: x289 :: x290 :: x291 :: x292 :: x293 :: x294 :: x295 :: x296 :: x297 :: x298 :: x299 :: x300 :: x301 :: x302 :: x303 :: x304 :: x305 :: x306 :: x307 :: x308 :: x309 :: x310 :: x311 :: x312 :: x313 :: x314 :: x315 :: x316 :: x317 :: x318 :: x319 :: x320 :: x321 :: x322 :: x323 :: x324 :: x325 :: x326 :: x327 :: x328 :: x329 :: x330 :: x331 :: x332 :: x333 :: x334 :: x335 :: x336 :: x337 :: x338 :: x339 :: x340 :: x341 :: x342 :: x343 :: x344 :: x345 :: x346 :: x347 :: x348 :: x349 :: x350 :: x351 :: x352 :: x353 :: x354 :: x355 :: x356 :: x357 :: x358 :: x359 :: x360 :: x361 :: x362 :: x363 :: x364 :: x365 :: x366 :: x367 :: x368 :: x369 :: x370 :: x371 :: x372 :: x373 :: x374 :: x375 :: x376 :: x377 :: x378 :: x379 :: x380 :: x381 :: []), []⟩ wr := by
  conv => arg 2; whnf
  have J1 := hid hJ.f
  have J3 := hid hJ.l
  have J4 := hid hJ.d
  have H0 : Hid (∀ x, dist0 pl bl x x = 0) := dist0_zero pl bl
  have H00 : Hid (∀ x y, x ≠ y → 0 < dist0 pl bl x y) := dist0_pos pl bl
  clear hJ
  go_loopw [34] (fun x wr => ∃ v : Nat, x = .int .i64 (v) ∧ v ≤ N ∧ NwF a P k r mo fb w wr lb2 (.slice bo n bc) bl (.slice po N pc) c1 (.slice (some ⟨nb, 0, none⟩) N N) (.slice (some ⟨db, 0, none⟩) N N) ∧ LAt wr lb2 7 1 c1 (bayP pl bl n).length (irow (bayP pl bl n)) ∧ NwD N nb db wr lb2 nv2 (fun x => if x < N then nearP pl bl x N else []) dr2 N (fwN (dist0 pl bl) v)) (fun x _ => N - (intOf x).toNat)
  case atStart => exact ⟨0, rfl, Nat.zero_le _, J1.out, J3.out, J4.out⟩
  case round =>
    obtain ⟨v, rfl, hvN, h1, h3, h4⟩ := hrel
    have M1 := hid h1
    have M3 := hid h3
    have M4 := hid h4
    clear h1 h3 h4 J1 J3 J4
    by_cases hvl : v < N
    · --BEGIN 9
      obtain ⟨w1, hw1⟩ : ∃ x, wr = x := ⟨_, rfl⟩
      rw [hw1] at M1 M3 M4 ⊢
      clear hw1 wr
      go_wp2
      go_loopw [35] (fun x wr => ∃ ab : Nat, x = .int .i64 (ab) ∧ ab ≤ N ∧ NwF a P k r mo fb w wr lb2 (.slice bo n bc) bl (.slice po N pc) c1 (.slice (some ⟨nb, 0, none⟩) N N) (.slice (some ⟨db, 0, none⟩) N N) ∧ LAt wr lb2 7 1 c1 (bayP pl bl n).length (irow (bayP pl bl n)) ∧ NwD N nb db wr lb2 nv2 (fun x => if x < N then nearP pl bl x N else []) dr2 N (mixd v ab 0 (fwN (dist0 pl bl) v))) (fun x _ => N - (intOf x).toNat)
      case atStart => exact ⟨0, rfl, Nat.zero_le _, M1.out, M3.out, M4.out.cong (fun i j _ _ => (mixd_none v _ i j).symm)⟩
      case round =>
        obtain ⟨ab, rfl, habN, h1, h3, h4⟩ := hrel
        have L1 := hid h1
        have L3 := hid h3
        have L4 := hid h4
        clear h1 h3 h4 M1 M3 M4 w1
        by_cases hal : ab < N
        · obtain ⟨w1, hw1⟩ : ∃ x, wr = x := ⟨_, rfl⟩
          rw [hw1] at L1 L3 L4 ⊢
          clear hw1 wr
          go_wp2
          go_loopw [36] (fun x wr => ∃ b : Nat, x = .int .i64 (b) ∧ b ≤ N ∧ NwF a P k r mo fb w wr lb2 (.slice bo n bc) bl (.slice po N pc) c1 (.slice (some ⟨nb, 0, none⟩) N N) (.slice (some ⟨db, 0, none⟩) N N) ∧ LAt wr lb2 7 1 c1 (bayP pl bl n).length (irow (bayP pl bl n)) ∧ NwD N nb db wr lb2 nv2 (fun x => if x < N then nearP pl bl x N else []) dr2 N (mixd v ab b (fwN (dist0 pl bl) v))) (fun x _ => N - (intOf x).toNat)
          case atStart => exact ⟨0, rfl, Nat.zero_le _, L1.out, L3.out, L4.out⟩
          case round =>
            obtain ⟨b, rfl, hbN, h1, h3, h4⟩ := hrel
            have R1 := hid h1
            have R3 := hid h3
            have R4 := hid h4
            clear h1 h3 h4 L1 L3 L4 w1
            by_cases hbl : b < N
            · have s3 : wr.cell? ⟨fb, 3, none⟩ = some (.slice (some ⟨db, 0, none⟩) N N) := R1.out.bf.is 3 (by omega)
              have sa := R4.out.bd.is ab hal
              have sv := R4.out.bd.is v hvl
              rw [if_pos hal] at sa
              rw [if_pos hvl] at sv
              have cab := (R4.out.rd ab hal).2.is b hbl
              have cav := (R4.out.rd ab hal).2.is v hvl
              have cvb := (R4.out.rd v hvl).2.is b hbl
              rw [mixd_ab] at cab
              rw [mixd_av H0.out H00.out] at cav
              rw [mixd_vb H0.out H00.out] at cvb
              have zab := (R4.out.rd ab hal).2.fz b hbl
              have l5 := R1.out.bf.lt
              have l6 := R4.out.bd.lt
              have l7 := (R4.out.rd ab hal).2.lt
              have l8 := (R4.out.rd v hvl).2.lt
              have tg := (R4.out.rd ab hal).1
              have hD10 := R4.out.setD ab b (fw v (fwN (dist0 pl bl) v) ab b) hal hbl
              have hk10 : KeptL lb2 (fun y => y = 2000 + ab) wr (wr.setCell ⟨dr2 ab, b, none⟩ (.int .i64 (fw v (fwN (dist0 pl bl) v) ab b))) := (KeptL.refl lb2 (fun y => y = 2000 + ab) wr).set tg _
              have KL := hid (And.intro (R1.out.keptL hk10 (fun _ _ => rfl) (fun x hx => by omega)) (And.intro (R3.out.keptL hk10 (by omega)) (hD10.cong (fun i j _ _ => mixd_next v ab b _ i j))))
              have b1 : fwN (dist0 pl bl) v ab b ≤ 1048576 := Nat.le_trans ((Fwd.all H0.out H00.out v).le ab b) (dist0_le _ _ _ _)
              have b2 : fwN (dist0 pl bl) v ab v ≤ 1048576 := Nat.le_trans ((Fwd.all H0.out H00.out v).le ab v) (dist0_le _ _ _ _)
              have b3 : fwN (dist0 pl bl) v v b ≤ 1048576 := Nat.le_trans ((Fwd.all H0.out H00.out v).le v b) (dist0_le _ _ _ _)
              have hfw : fw v (fwN (dist0 pl bl) v) ab b = min (fwN (dist0 pl bl) v ab b) (fwN (dist0 pl bl) v ab v + fwN (dist0 pl bl) v v b) := rfl
              generalize fw v (fwN (dist0 pl bl) v) ab b = x0 at *
              generalize fwN (dist0 pl bl) v ab b = x1 at *
              generalize fwN (dist0 pl bl) v ab v = x2 at *
              generalize fwN (dist0 pl bl) v v b = x3 at *
              have hmin := fun (w : World) (ty : TypeId) => run_min w (x1 : Int) ((x2 : Int) + (x3 : Int)) (x0 : Int) (by omega) ty
              have hwr : IntKind.i64.wrap ((x2 : Int) + (x3 : Int)) = (x2 : Int) + (x3 : Int) := by simp [IntKind.wrap, IntKind.bits, IntKind.signed]; omega
              obtain ⟨da, hda⟩ : ∃ x, dr2 ab = x := ⟨_, rfl⟩
              obtain ⟨dw, hdw⟩ : ∃ x, dr2 v = x := ⟨_, rfl⟩
              rw [hda] at sa cab cav zab l7 KL
              rw [hdw] at sv cvb l8
              clear hfw hD10 hk10 tg hda hdw R1 R3 R4
              go_wp2
              refine wp_region_tree 41 (fun w' => w'.cell? ⟨fb, 3, none⟩ = some (.slice (some ⟨db, 0, none⟩) N N) ∧ w'.cell? ⟨db, ab, none⟩ = some (.slice (some ⟨da, 0, none⟩) N N) ∧ w'.cell? ⟨db, v, none⟩ = some (.slice (some ⟨dw, 0, none⟩) N N) ∧ w'.cell? ⟨da, b, none⟩ = some (.int .i64 (x1)) ∧ w'.cell? ⟨da, v, none⟩ = some (.int .i64 (x2)) ∧ w'.cell? ⟨dw, b, none⟩ = some (.int .i64 (x3))) (.q 0 false (.q 1 false (.q 2 false (.q 3 true (.q 4 false (.q 5 false (.q 6 true (.q 7 false (.q 8 false (.q 9 false (.q 10 false (.q 11 true (.q 12 false (.q 13 false (.q 14 true (.q 15 false (.q 16 false (.q 17 true (.q 18 false (.q 19 false (.q 20 false (.q 21 true (.q 22 false (.q 23 false (.q 24 true (.q 25 false (.q 26 false (.q 27 true (.q 28 false (.q 29 false (.q 30 false (.q 31 true (.q 32 false (.q 33 false (.q 34 true (.q 35 false (.q 36 false (.q 37 true (.q 38 false (.q 39 false (.q 40 false (.one 41 false .nil)))))))))))))))))))))))))))))))))))))))))) (by kernel_rfl) (by kernel_rfl) (by kernel_rfl) ?_ ?_
              · simp [go_sem, ↓IntWalk.iteOmega, *]
              repeat (first | (refine wpTr_qf (v := ?_) rfl rfl ?_ ?_; rotate_left; focus (intro w; go_simp; (try (with_reducible rfl)); done); try simp only [List.getElem_toArray, List.getElem_cons_zero, List.getElem_cons_succ, Act.put, List.setIfInBounds_toArray, List.set_cons_zero, List.set_cons_succ]) | (refine wpTr_qt (v := ?_) rfl rfl ?_ ?_; rotate_left; focus (intro w hSw; (try dsimp only at hSw); go_simp; (try (with_reducible rfl)); done); try simp only [List.getElem_toArray, List.getElem_cons_zero, List.getElem_cons_succ, Act.put, List.setIfInBounds_toArray, List.set_cons_zero, List.set_cons_succ]))
              refine wpTr_one rfl rfl (fun K hK => ?_)
              go_simp
              refine hK.out _ _ (fun h => by cases h) ?_
              clear hK K
              refine wpTr_nil ?_
              refine NoPanic.normal ?_
              go_wp2
              go_roundw
              case rel => exact ⟨b + 1, by go_num, by omega, KL.out.1.below (Below.rf _).drew, KL.out.2.1.below (Below.rf _).drew, KL.out.2.2.below (Below.rf _).drew⟩
              case measure => simp [intOf]; omega
            · have hbe : N = b := by omega
              subst hbe
              go_wp2
              go_roundw
              case rel => exact ⟨ab + 1, by go_num, by omega, R1.out, R3.out, R4.out.cong (fun i j _ hj => mixd_row v ab N _ i j hj)⟩
              case measure => simp [intOf]; omega
        · have hbe : N = ab := by omega
          subst hbe
          go_wp2
          go_roundw
          case rel => exact ⟨v + 1, by go_num, by omega, L1.out, L3.out, L4.out.cong (fun i j hi _ => mixd_all v N _ i j hi)⟩
          case measure => simp [intOf]; omega
      --END 9
    · have hbe : N = v := by omega
      subst hbe
      go_wp2
      exact ⟨⟨M1.out, M3.out, M4.out⟩, _, _, _, _, _, _, _, _, _, _, _, _, _, _, _, _, _, _, _, _, _, _, _, _, _, _, _, _, _, _, _, _, _, _, _, _, _, _, _, _, _, _, _, _, _, _, _, _, _, _, _, _, _, _, _, _, _, _, _, rfl⟩
end Go.Proofs.Qxb6500716a
