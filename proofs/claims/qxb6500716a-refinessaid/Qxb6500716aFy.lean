/-
  floorm.New: its loop over the cells' pairs, cut out.
-/
import Derived.Test.Qxb6500716aFx
namespace Go.Proofs.Qxb6500716a
open Go.RowKit Go.Maps
set_option linter.unusedSimpArgs false
set_option linter.unusedVariables false
set_option maxRecDepth 20000
set_option maxHeartbeats 4000000

/-- The pair's squares. -/
theorem sq_bd {x : Int} (h : -30 ≤ x ∧ x ≤ 30) : 0 ≤ x * x ∧ x * x ≤ 900 := by
  constructor
  · rcases Int.le_total 0 x with h1 | h1
    · exact Int.mul_nonneg h1 h1
    · have := Int.mul_nonneg (Int.neg_nonneg_of_nonpos h1) (Int.neg_nonneg_of_nonpos h1)
      rwa [Int.neg_mul_neg] at this
  · rcases Int.le_total 0 x with h1 | h1
    · exact Int.le_trans (Int.mul_le_mul_of_nonneg_left h.2 h1) (by omega)
    · have h2 : (-x) * (-x) ≤ 30 * 30 := Int.mul_le_mul (by omega) (by omega) (by omega) (by omega)
      rwa [Int.neg_mul_neg] at h2
structure NdEnd (A P k r mo fb N nb db n : Nat) (w wr : World) (lb : Nat → Nat) (bo : Option Addr) (bc : Nat) (po : Option Addr) (pc : Nat) (bl pl : List (Int × Int)) (c1 : Value) (nv : Nat → Value) (dr : Nat → Nat) (aa : Nat) : Prop where
  f : NwF A P k r mo fb w wr lb (.slice bo n bc) bl (.slice po N pc) c1 (.slice (some ⟨nb, 0, none⟩) N N) (.slice (some ⟨db, 0, none⟩) N N)
  p : LAt wr lb 6 2 (.slice po N pc) N (prow pl)
  l : LAt wr lb 7 1 c1 (bayP pl bl n).length (irow (bayP pl bl n))
  d : NwD N nb db wr lb nv (fun x => if x < aa then nearP pl bl x N else []) dr aa (dist0 pl bl)
set_option maxRecDepth 1000000 in
set_option maxHeartbeats 400000000 in
theorem nd_loop (a P k r mo fb N nb db n : Nat) (w w3 : World) (lb3 : Nat → Nat) (bo : Option Addr) (bc : Nat) (po : Option Addr) (pc : Nat) (bl pl : List (Int × Int)) (c1 : Value) (nv0 : Nat → Value) (dr0 : Nat → Nat) (hN384 : 1 ≤ N ∧ N ≤ 384) (HM : Hid (w.heap.size = mo)) (HNn : Hid (pl.length = N)) (HPB : Hid (∀ (c : Nat) (p : Int × Int), pl[c]? = some p → 0 ≤ p.1 ∧ p.1 < 16 ∧ 0 ≤ p.2 ∧ p.2 < 24))
    (hJ : NdEnd a P k r mo fb N nb db n w w3 lb3 bo bc po pc bl pl c1 nv0 dr0 0) (Q0 : Exit → Act → World → Prop) (x0 x1 x2 x3 x4 x5 x6 x7 x8 x9 x10 x11 x13 x14 x15 x16 x17 x18 x19 x21 x22 x23 x24 x25 x26 x28 x29 x30 x31 x32 x33 x34 x35 x36 x37 x38 x39 x40 x41 x42 x43 x44 x45 x46 x47 x48 x49 x50 x51 x52 x53 x54 x55 x56 x57 x58 x59 x60 x61 x62 x63 x64 x65 x66 x67 x68 x69 x70 x71 x72 x73 x74 x75 x76 x77 x78 x79 x80 x81 x82 x83 x84 x85 x86 x87 x88 x89 x90 x91 x92 x93 x94 x95 x96 x97 x98 x99 x100 x101 x102 x103 x104 x105 x106 x107 x108 x109 x110 x111 x112 x113 x114 x115 x116 x117 x118 x119 x120 x121 x122 x123 x124 x125 x126 x127 x128 x129 x130 x131 x132 x133 x134 x135 x136 x137 x138 x139 x140 x141 x142 x143 x144 x145 x146 x147 x148 x149 x150 x151 x152 x153 x154 x155 x156 x157 x158 x159 x160 x161 x162 x163 x164 x165 x166 x167 x168 x169 x170 x171 x172 x173 x174 x175 x176 x177 x178 x179 x180 x181 x182 x183 x184 x185 x186 x187 x188 x189 x190 x191 x192 x193 x194 x195 x196 x197 x198 x199 x200 x201 x202 x203 x204 x205 x206 x207 x208 x209 x210 x211 x212 x213 x214 x215 x216 x217 x218 x219 x220 x221 x222 x223 x224 x225 x229 x230 x231 x232 x233 x234 x235 x236 x237 x238 x239 x240 x241 x242 x243 x244 x245 x246 x247 x248 x249 x250 x251 x252 x253 x254 x255 x256 x257 x258 x259 x260 x261 x262 x263 x264 x265 x266 x267 x268 x269 x270 x271 x272 x273 x274 x275 x276 x277 x278 x279 x280 x281 x282 x283 x284 x285 x286 x287 x288 x289 x290 x291 x292 x293 x294 x295 x296 x297 x298 x299 x300 x301 x302 x303 x304 x305 x306 x307 x308 x309 x310 x311 x312 x313 x314 x315 x316 x317 x318 x319 x320 x321 x322 x323 x324 x325 x326 x327 x328 x329 x330 x331 x332 x333 x334 x335 x336 x337 x338 x339 x340 x341 x342 x343 x344 x345 x346 x347 x348 x349 x350 x351 x352 x353 x354 x355 x356 x357 x358 x359 x360 x361 x362 x363 x364 x365 x366 x367 x368 x369 x370 x371 x372 x373 x374 x375 x376 x377 x378 x379 x380 x381 : Value)
    (hexit : ∀ (a' : Act) (w'' : World), (∃ (lb : Nat → Nat) (nv : Nat → Value) (dr : Nat → Nat), NdEnd a P k r mo fb N nb db n w w'' lb bo bc po pc bl pl c1 nv dr N ∧ ∃ u28 u29 u30 u31 u32 u33 u228 u229 u230 u231 u232 u233 u234 u235 u236 u237 u238 u239 u240 u241 u242 u243 u244 u245 u246 u247 u248 u249 u250 u251 u252 u253 u254 u255 u256 u257 u258 u259 u260 u261 u262 u263 u264 u265 u266 u267 u268 u269 u270 u271 u272 u273 u274 u275 u276 u277 u278 u279 u280 u281 u282 u283 u284 u285 u286 u287 u288 u289 u290 u291 u292 u293 u294 u295 u296 u297 u298 u299 u300 u301 u302 u303 u304 u305 u306 u307 u308 u309 u310 u311 u312 u313 u314 u315 u316 u317 u318 u319 u320 u321 u322 u323 u324 : Value, a' = ⟨List.toArray (x0 :: x1 :: x2 :: x3 :: x4 :: x5 :: x6 :: x7 :: x8 :: x9 :: x10 :: x11 :: .map (some (mo + 1)) :: x13 :: x14 :: x15 :: x16 :: x17 :: x18 :: x19 :: .pointer (some ⟨fb, 0, none⟩) :: x21 :: x22 :: x23 :: x24 :: x25 :: x26 :: .int .i64 (N) :: u28 :: u29 :: u30 :: u31 :: u32 :: u33 :: x34 :: x35 :: x36 :: x37 :: x38 :: x39 :: x40 :: x41 :: x42 :: x43 :: x44 :: x45 :: x46 :: x47 :: x48 :: x49 :: x50 :: x51 :: x52 :: x53 :: x54 :: x55 :: x56 :: x57 :: x58 :: x59 :: x60 :: x61 :: x62 :: x63 :: x64 :: x65 :: x66 :: x67 :: x68 :: x69 :: x70 :: x71 :: x72 :: x73 :: x74 :: x75 :: x76 :: x77 :: x78 :: x79 :: x80 :: x81 :: x82 :: x83 :: x84 :: x85 :: x86 :: x87 :: x88 :: x89 :: x90 :: x91 :: x92 :: x93 :: x94 :: x95 :: x96 :: x97 :: x98 :: x99 :: x100 :: x101 :: x102 :: x103 :: x104 :: x105 :: x106 :: x107 :: x108 :: x109 :: x110 :: x111 :: x112 :: x113 :: x114 :: x115 :: x116 :: x117 :: x118 :: x119 :: x120 :: x121 :: x122 :: x123 :: x124 :: x125 :: x126 :: x127 :: x128 :: x129 :: x130 :: x131 :: x132 :: x133 :: x134 :: x135 :: x136 :: x137 :: x138 :: x139 :: x140 :: x141 :: x142 :: x143 :: x144 :: x145 :: x146 :: x147 :: x148 :: x149 :: x150 :: x151 :: x152 :: x153 :: x154 :: x155 :: x156 :: x157 :: x158 :: x159 :: x160 :: x161 :: x162 :: x163 :: x164 :: x165 :: x166 :: x167 :: x168 :: x169 :: x170 :: x171 :: x172 :: x173 :: x174 :: x175 :: x176 :: x177 :: x178 :: x179 :: x180 :: x181 :: x182 :: x183 :: x184 :: x185 :: x186 :: x187 :: x188 :: x189 :: x190 :: x191 :: x192 :: x193 :: x194 :: x195 :: x196 :: x197 :: x198 :: x199 :: x200 :: x201 :: x202 :: x203 :: x204 :: x205 :: x206 :: x207 :: x208 :: x209 :: x210 :: x211 :: x212 :: x213 :: x214 :: x215 :: x216 :: x217 :: x218 :: x219 :: x220 :: x221 :: x222 :: x223 :: x224 :: x225 :: .slice po N pc :: .int .i64 (N) :: u228 :: u229 :: u230 :: u231 :: u232 :: u233 :: u234 :: u235 :: u236 :: u237 :: u238 :: u239 :: u240 :: u241 :: u242 :: u243 :: u244 :: u245 :: u246 :: u247 :: u248 :: u249 :: u250 :: u251 :: u252 :: u253 :: u254 :: u255 :: u256 :: u257 :: u258 :: u259 :: u260 :: u261 :: u262 :: u263 :: u264 :: u265 :: u266 :: u267 :: u268 :: u269 :: u270 :: u271 :: u272 :: u273 :: u274 :: u275 :: u276 :: u277 :: u278 :: u279 :: u280 :: u281 :: u282 :: u283 :: u284 :: u285 :: u286 :: u287 :: u288 :: u289 :: u290 :: u291 :: u292 :: u293 :: u294 :: u295 :: u296 :: u297 :: u298 :: u299 :: u300 :: u301 :: u302 :: u303 :: u304 :: u305 :: u306 :: u307 :: u308 :: u309 :: u310 :: u311 :: u312 :: u313 :: u314 :: u315 :: u316 :: u317 :: u318 :: u319 :: u320 :: u321 :: u322 :: u323 :: u324 :: x325 :: x326 :: x327 :: x328 :: x329 :: x330 :: x331 :: x332 :: x333 :: x334 :: x335 :: x336 :: x337 :: x338 :: x339 :: x340 :: x341 :: x342 :: x343 :: x344 :: x345 :: x346 :: x347 :: x348 :: x349 :: x350 :: x351 :: x352 :: x353 :: x354 :: x355 :: x356 :: x357 :: x358 :: x359 :: x360 :: x361 :: x362 :: x363 :: x364 :: x365 :: x366 :: x367 :: x368 :: x369 :: x370 :: x371 :: x372 :: x373 :: x374 :: x375 :: x376 :: x377 :: x378 :: x379 :: x380 :: x381 :: []), []⟩) → Q0 (.exit 16) a' w'') :
    Code.wp Try.prog ((Try.f46.body.bind (findBlock 16)).getD .skip) Q0 ⟨List.toArray (x0 :: x1 :: x2 :: x3 :: x4 :: x5 :: x6 :: x7 :: x8 :: x9 :: x10 :: x11 :: .map (some (mo + 1)) :: x13 :: x14 :: x15 :: x16 :: x17 :: x18 :: x19 :: .pointer (some ⟨fb, 0, none⟩) :: x21 :: x22 :: x23 :: x24 :: x25 :: x26 :: .int .i64 (N) :: x28 :: x29 :: x30 :: x31 :: x32 :: x33 :: x34 :: x35 :: x36 :: x37 :: x38 :: x39 :: x40 :: x41 :: x42 :: x43 :: x44 :: x45 :: x46 :: x47 :: x48 :: x49 :: x50 :: x51 :: x52 :: x53 :: x54 :: x55 :: x56 :: x57 :: x58 :: x59 :: x60 :: x61 :: x62 :: x63 :: x64 :: x65 :: x66 :: x67 :: x68 :: x69 :: x70 :: x71 :: x72 :: x73 :: x74 :: x75 :: x76 :: x77 :: x78 :: x79 :: x80 :: x81 :: x82 :: x83 :: x84 :: x85 :: x86 :: x87 :: x88 :: x89 :: x90 :: x91 :: x92 :: x93 :: x94 :: x95 :: x96 :: x97 :: x98 :: x99 :: x100 :: x101 :: x102 :: x103 :: x104 :: x105 :: x106 :: x107 :: x108 :: x109 :: x110 :: x111 :: x112 :: x113 :: x114 :: x115 :: x116 :: x117 :: x118 :: x119 :: x120 :: x121 :: x122 :: x123 :: x124 :: x125 :: x126 :: x127 :: x128 :: x129 :: x130 :: x131 :: x132 :: x133 :: x134 :: x135 :: x136 :: x137 :: x138 :: x139 :: x140 :: x141 :: x142 :: x143 :: x144 :: x145 :: x146 :: x147 :: x148 :: x149 :: x150 :: x151 :: x152 :: x153 :: x154 :: x155 :: x156 :: x157 :: x158 :: x159 :: x160 :: x161 :: x162 :: x163 :: x164 :: x165 :: x166 :: x167 :: x168 :: x169 :: x170 :: x171 :: x172 :: x173 :: x174 :: x175 :: x176 :: x177 :: x178 :: x179 :: x180 :: x181 :: x182 :: x183 :: x184 :: x185 :: x186 :: x187 :: x188 :: x189 :: x190 :: x191 :: x192 :: x193 :: x194 :: x195 :: x196 :: x197 :: x198 :: x199 :: x200 :: x201 :: x202 :: x203 :: x204 :: x205 :: x206 :: x207 :: x208 :: x209 :: x210 :: x211 :: x212 :: x213 :: x214 :: x215 :: x216 :: x217 :: x218 :: x219 :: x220 :: x221 :: x222 :: x223 :: x224 :: x225 :: .slice po N pc :: .int .i64 (N) :: .int .i64 ((0 : Nat)) :: x229 :: x230 :: x231 :: x232 :: x233 :: x234 :: x235 :: x236 :: x237 :: x238 :: x239 :: x240 :: x241 :: x242 :: x243 :: x244 :: x245 :: x246 :: x247 :: x248 :: x249 :: x250 :: x251 :: x252 :: x253 :: x254 :: x255 :: x256 :: x257 :: x258 :: x259 :: x260 :: x261 :: x262 :: x263 :: x264 :: x265 :: x266 :: x267 :: x268 :: x269 :: x270 :: x271 :: x272 :: x273 :: x274 :: x275 :: x276 :: x277 :: x278 :: x279 :: x280 :: x281 :: x282 :: x283 :: x284 :: x285 :: x286 :: x287 :: x288 :: x289 :: x290 :: x291 :: x292 :: x293 :: x294 :: x295 :: x296 :: x297 :: x298 :: x299 :: x300 :: x301 :: x302 :: x303 :: x304 :: x305 :: x306 :: x307 :: x308 :: x309 :: x310 :: x311 :: x312 :: x313 :: x314 :: x315 :: x316 :: x317 :: x318 :: x319 :: x320 :: x321 :: x322 :: x323 :: x324 :: x325 :: x326 :: x327 :: x328 :: x329 :: x330 :: x331 :: x332 :: x333 :: x334 :: x335 :: x336 :: x337 :: x338 :: x339 :: x340 :: x341 :: x342 :: x343 :: x344 :: x345 :: x346 :: x347 :: x348 :: x349 :: x350 :: x351 :: x352 :: x353 :: x354 :: x355 :: x356 :: x357 :: x358 :: x359 :: x360 :: x361 :: x362 :: x363 :: x364 :: x365 :: x366 :: x367 :: x368 :: x369 :: x370 :: x371 :: x372 :: x373 :: x374 :: x375 :: x376 :: x377 :: x378 :: x379 :: x380 :: x381 :: []), []⟩ w3 := by
  conv => arg 2; whnf
  obtain ⟨Zr, hr1, hr2, hr3⟩ := make_is (P := Try.prog) 32 3 (.int .i64 (0)) 1 8 Try.underlying32 (by kernel_rfl) N (by omega) (by omega)
  have HR2 := hid hr2
  have K1 := hid hJ.f
  have K2 := hid hJ.p
  have K3 := hid hJ.l
  have K4 := hid hJ.d
  clear hJ hr2 hr1
  go_loopw [228] (fun x wr => ∃ (aa : Nat) (lb : Nat → Nat) (nv : Nat → Value) (dr : Nat → Nat), x = .int .i64 (aa) ∧ aa ≤ N ∧ NwF a P k r mo fb w wr lb (.slice bo n bc) bl (.slice po N pc) c1 (.slice (some ⟨nb, 0, none⟩) N N) (.slice (some ⟨db, 0, none⟩) N N) ∧ LAt wr lb 6 2 (.slice po N pc) N (prow pl) ∧ LAt wr lb 7 1 c1 (bayP pl bl n).length (irow (bayP pl bl n)) ∧ NwD N nb db wr lb nv (fun x => if x < aa then nearP pl bl x N else []) dr aa (dist0 pl bl)) (fun x _ => N - (intOf x).toNat)
  case atStart => exact ⟨0, lb3, nv0, dr0, rfl, Nat.zero_le _, K1.out, K2.out, K3.out, K4.out⟩
  case round =>
    obtain ⟨aa, lb2, nv2, dr2, rfl, haN, h1, h2, h3, h4⟩ := hrel
    have J1 := hid h1
    have J2 := hid h2
    have J3 := hid h3
    have J4 := hid h4
    clear K1 K2 K3 K4 h1 h2 h3 h4
    by_cases haa : aa < N
    · --BEGIN 7
      have hal : aa < pl.length := by rw [HNn.out]; exact haa
      have hp : pl[aa]? = some pl[aa] := List.getElem?_eq_getElem hal
      have hpA : plAt pl aa = pl[aa] := by simp [plAt, List.getD_eq_getElem?_getD, hp]
      generalize pl[aa] = p at *
      obtain ⟨b6, pc2, hbv, hbn6, hb6, -, hbc⟩ := J2.out.see (by omega)
      simp only [Value.slice.injEq] at hbv
      obtain ⟨rfl, -, rfl⟩ := hbv
      have q1 := hbc _ _ (prow_at pl aa p hp).1
      have q2 := hbc _ _ (prow_at pl aa p hp).2
      have hpb := HPB.out aa p hp
      have da : decide ((aa : Int) < (N : Int)) = true := by simp; omega
      have hud : ∀ k, k < wr.heap.size → upd lb2 wr.heap.size 0 k = lb2 k := fun k hk => upd_ne _ _ (by omega)
      have hBA : Below wr.heap.size wr (wr.alloc (Obj.cells #[.int .i64 (p.1), .int .i64 (p.2)] 113)) := (Below.rf _).al _
      have hkA : KeptL lb2 (fun _ => False) wr (wr.alloc (Obj.cells #[.int .i64 (p.1), .int .i64 (p.2)] 113)) := KeptL.of_below hBA
      have KA := hid (And.intro (J1.out.keptL (lb' := upd lb2 wr.heap.size 0) hkA hud (fun _ h => h.elim)) (And.intro ((J2.out.relab hud).below hBA) (And.intro ((J3.out.relab hud).below hBA) (And.intro (J4.out.keptL (lb' := upd lb2 wr.heap.size 0) hkA hud (fun _ h => h.elim)) (And.intro (upd_at lb2 wr.heap.size 0) (show Blk (wr.alloc (Obj.cells #[.int .i64 (p.1), .int .i64 (p.2)] 113)) wr.heap.size 2 (fc (.int .i64 (p.1)) (.int .i64 (p.2)) (.int .i64 (0)) (.int .i64 (0))) from ⟨by simp, fun j hj => by rcases (by omega : j = 0 ∨ j = 1) with rfl | rfl <;> simp [go_sem, ↓IntWalk.iteOmega, fc], fun j hj => by simp [go_sem, ↓IntWalk.iteOmega]⟩))))))
      have HPA := hid hpA
      clear hp hbc hud hBA hkA J1 J2 J3 J4 hpA
      go_wp2
      obtain ⟨pa, hpa⟩ : ∃ x, wr.heap.size = x := ⟨_, rfl⟩
      rw [hpa] at KA ⊢
      generalize (wr.alloc (Obj.cells #[.int .i64 (p.1), .int .i64 (p.2)] 113)) = wA at *
      generalize (upd lb2 pa 0) = lbA at *
      clear hpa q1 q2 hb6
      have s3 : wA.cell? ⟨fb, 3, none⟩ = some (.slice (some ⟨db, 0, none⟩) N N) := KA.out.1.bf.is 3 (by omega)
      have sd := KA.out.2.2.2.1.bd.is aa haa
      rw [if_neg (by omega)] at sd
      have zd := KA.out.2.2.2.1.bd.fz aa haa
      have l5 := KA.out.1.bf.lt
      have l6 := KA.out.2.2.2.1.bd.lt
      refine wp_region_tree 8 (fun w' => w'.cell? ⟨fb, 3, none⟩ = some (.slice (some ⟨db, 0, none⟩) N N)) (.q 0 false (.q 1 false (.q 2 false (.q 3 true (.q 4 false (.q 5 false (.one 6 true (.q 7 false (.one 8 false .nil))))))))) (by kernel_rfl) (by kernel_rfl) (by kernel_rfl) ?_ ?_
      · simp [go_sem, ↓IntWalk.iteOmega, *]
      repeat (first | (refine wpTr_qf (v := ?_) rfl rfl ?_ ?_; rotate_left; focus (intro w; go_simp; (try (with_reducible rfl)); done); try simp only [List.getElem_toArray, List.getElem_cons_zero, List.getElem_cons_succ, Act.put, List.setIfInBounds_toArray, List.set_cons_zero, List.set_cons_succ]) | (refine wpTr_qt (v := ?_) rfl rfl ?_ ?_; rotate_left; focus (intro w hSw; (try dsimp only at hSw); go_simp; (try (with_reducible rfl)); done); try simp only [List.getElem_toArray, List.getElem_cons_zero, List.getElem_cons_succ, Act.put, List.setIfInBounds_toArray, List.set_cons_zero, List.set_cons_succ]))
      refine wpTr_one rfl rfl (fun K hK => ?_)
      go_simp
      refine hK.out _ _ (fun _ => by simp [go_sem, ↓IntWalk.iteOmega, *]) ?_
      clear hK K
      repeat (first | (refine wpTr_qf (v := ?_) rfl rfl ?_ ?_; rotate_left; focus (intro w; go_simp; (try (with_reducible rfl)); done); try simp only [List.getElem_toArray, List.getElem_cons_zero, List.getElem_cons_succ, Act.put, List.setIfInBounds_toArray, List.set_cons_zero, List.set_cons_succ]) | (refine wpTr_qt (v := ?_) rfl rfl ?_ ?_; rotate_left; focus (intro w hSw; (try dsimp only at hSw); go_simp; (try (with_reducible rfl)); done); try simp only [List.getElem_toArray, List.getElem_cons_zero, List.getElem_cons_succ, Act.put, List.setIfInBounds_toArray, List.set_cons_zero, List.set_cons_succ]))
      refine wpTr_one rfl rfl (fun K hK => ?_)
      go_simp
      refine hK.out _ _ (fun h => by cases h) ?_
      clear hK K
      refine wpTr_nil ?_
      refine NoPanic.normal ?_
      have hD5 := (KA.out.2.2.2.1.newD haa 3 Zr HR2.out)
      have hk5 : KeptL lbA (fun y => y = 9) wA ((wA.setCell ⟨db, aa, none⟩ (.slice (some ⟨wA.heap.size, 0, none⟩) N N)).alloc (.cells Zr 3)) := ((KeptL.refl lbA (fun y => y = 9) wA).set KA.out.2.2.2.1.l9 _).al _
      have hl5 : ∀ k, k < wA.heap.size → upd lbA wA.heap.size (2000 + aa) k = lbA k := fun k hk => upd_ne _ _ (by omega)
      have KB := hid (And.intro (KA.out.1.keptL (lb' := upd lbA wA.heap.size (2000 + aa)) hk5 hl5 (fun x hx => by omega)) (And.intro (KA.out.2.1.of hk5.size (fun b h1 h2 => hk5.block b h1 (by rw [h2]; omega)) hl5) (And.intro (KA.out.2.2.1.of hk5.size (fun b h1 h2 => hk5.block b h1 (by rw [h2]; omega)) hl5) (And.intro hD5 (And.intro ((hl5 _ KA.out.2.2.2.2.2.lt).trans KA.out.2.2.2.2.1) (KA.out.2.2.2.2.2.keptL hk5 (by rw [KA.out.2.2.2.2.1]; omega)))))))
      obtain ⟨w3', hw3⟩ : ∃ x, ((wA.setCell ⟨db, aa, none⟩ (.slice (some ⟨wA.heap.size, 0, none⟩) N N)).alloc (.cells Zr 3)) = x := ⟨_, rfl⟩
      rw [hw3] at KB ⊢
      obtain ⟨dr3, hdr3⟩ : ∃ x, upd dr2 aa wA.heap.size = x := ⟨_, rfl⟩
      rw [hdr3] at KB
      generalize (upd lbA wA.heap.size (2000 + aa)) = lbB at *
      clear hdr3 hw3 hD5 hk5 hl5 KA s3 sd zd l5 l6
      have s0 : w3'.cell? ⟨fb, 0, none⟩ = some (.slice (some ⟨b6, 0, none⟩) N pc) := KB.out.1.bf.is 0 (by omega)
      have l5 := KB.out.1.bf.lt
      go_wp2
      go_loopw [246] (fun x wr => ∃ (b : Nat) (lb : Nat → Nat) (nv : Nat → Value), x = .int .i64 (b) ∧ b ≤ N ∧ NwF a P k r mo fb w wr lb (.slice bo n bc) bl (.slice (some ⟨b6, 0, none⟩) N pc) c1 (.slice (some ⟨nb, 0, none⟩) N N) (.slice (some ⟨db, 0, none⟩) N N) ∧ LAt wr lb 6 2 (.slice (some ⟨b6, 0, none⟩) N pc) N (prow pl) ∧ LAt wr lb 7 1 c1 (bayP pl bl n).length (irow (bayP pl bl n)) ∧ NwD N nb db wr lb nv (ndl pl bl N aa b) dr3 (aa + 1) (ddv pl bl aa b) ∧ lb pa = 0 ∧ Blk wr pa 2 (fc (.int .i64 (p.1)) (.int .i64 (p.2)) (.int .i64 (0)) (.int .i64 (0)))) (fun x _ => N - (intOf x).toNat)
      case atStart =>
        refine ⟨0, lbB, nv2, rfl, Nat.zero_le _, KB.out.1.below (Below.rf _).drew, KB.out.2.1.below (Below.rf _).drew, KB.out.2.2.1.below (Below.rf _).drew, ?_, KB.out.2.2.2.2.1, KB.out.2.2.2.2.2.below (Below.rf _).drew⟩
        have e6 : ndl pl bl N aa 0 = fun x => if x < aa then nearP pl bl x N else [] := by
          funext x
          unfold ndl
          by_cases g : x < aa
          · rw [if_pos g, if_pos g]
          · rw [if_neg g, if_neg g]
            split <;> rfl
        rw [e6]
        refine (KB.out.2.2.2.1.below (Below.rf _).drew).cong (fun i j hi hj => ?_)
        unfold ddv
        by_cases g : i = aa
        · rw [if_pos g, if_pos g, if_neg (by omega)]
        · rw [if_neg g, if_neg g]
      case round =>
        obtain ⟨b, lb4, nv4, rfl, hbN, h1, h2, h3, h4, h5, h6⟩ := hrel
        have J1 := hid h1
        have J2 := hid h2
        have J3 := hid h3
        have J4 := hid h4
        have J5 := hid h5
        have J6 := hid h6
        clear h1 h2 h3 h4 h5 h6 KB s0 l5
        by_cases hlb : b < N
        · --BEGIN 8
          have hbl : b < pl.length := by rw [HNn.out]; exact hlb
          have hq : pl[b]? = some pl[b] := List.getElem?_eq_getElem hbl
          have hqA : plAt pl b = pl[b] := by simp [plAt, List.getD_eq_getElem?_getD, hq]
          generalize pl[b] = q at *
          obtain ⟨b7, pc7, hbv, hbn7, hb7, -, hbc⟩ := J2.out.see (by omega)
          simp only [Value.slice.injEq, Option.some.injEq, Addr.mk.injEq, and_true, true_and] at hbv
          obtain ⟨rfl, rfl⟩ := hbv
          have q1 := hbc _ _ (prow_at pl b q hq).1
          have q2 := hbc _ _ (prow_at pl b q hq).2
          have hqb := HPB.out b q hq
          have db1 : decide ((b : Int) < (N : Int)) = true := by simp; omega
          have hBA : Below wr.heap.size wr (wr.alloc (Obj.cells #[.int .i64 (q.1), .int .i64 (q.2)] 113)) := (Below.rf _).al _
          have hqB : Blk (wr.alloc (Obj.cells #[.int .i64 (q.1), .int .i64 (q.2)] 113)) wr.heap.size 2 (fc (.int .i64 (q.1)) (.int .i64 (q.2)) (.int .i64 (0)) (.int .i64 (0))) := ⟨by simp, fun j hj => by rcases (by omega : j = 0 ∨ j = 1) with rfl | rfl <;> simp [go_sem, ↓IntWalk.iteOmega, fc], fun j hj => by simp [go_sem, ↓IntWalk.iteOmega]⟩
          have hdq : dr3 aa < wr.heap.size := (J4.out.rd aa (by omega)).2.lt
          have KA := hid (And.intro (J1.out.below hBA) (And.intro (J2.out.below hBA) (And.intro (J3.out.below hBA) (And.intro (J4.out.below hBA) (And.intro J5.out (And.intro (J6.out.below hBA) hqB))))))
          have HQA := hid hqA
          clear hq hbc hBA J1 J2 J3 J4 J5 J6 hqA hqB
          go_wp2
          obtain ⟨qa, hqa⟩ : ∃ x, wr.heap.size = x := ⟨_, rfl⟩
          rw [hqa] at KA hdq ⊢
          generalize (wr.alloc (Obj.cells #[.int .i64 (q.1), .int .i64 (q.2)] 113)) = wA at *
          clear hqa q1 q2 hb7
          have c1a : wA.cell? ⟨pa, 0, none⟩ = some (.int .i64 (p.1)) := KA.out.2.2.2.2.2.1.is 0 (by omega)
          have c1b : wA.cell? ⟨pa, 1, none⟩ = some (.int .i64 (p.2)) := KA.out.2.2.2.2.2.1.is 1 (by omega)
          have c2a : wA.cell? ⟨qa, 0, none⟩ = some (.int .i64 (q.1)) := KA.out.2.2.2.2.2.2.is 0 (by omega)
          have c2b : wA.cell? ⟨qa, 1, none⟩ = some (.int .i64 (q.2)) := KA.out.2.2.2.2.2.2.is 1 (by omega)
          have l1 := KA.out.2.2.2.2.2.1.lt
          have l2 := KA.out.2.2.2.2.2.2.lt
          first | with_reducible refine wp_region_ext2 (by kernel_rfl) (by kernel_rfl) ?_ | refine wp_region_ext (by kernel_rfl) (by kernel_rfl) ?_
          repeat (go_big_quiet_step (fail))
          refine wpQuiet_nil ?_
          rintro _ ⟨z, rfl⟩
          have hBz := World.below_ext wA z
          have KB := hid (And.intro (KA.out.1.below hBz) (And.intro (KA.out.2.1.below hBz) (And.intro (KA.out.2.2.1.below hBz) (And.intro (KA.out.2.2.2.1.below hBz) (And.intro KA.out.2.2.2.2.1 (And.intro (KA.out.2.2.2.2.2.1.below hBz) (KA.out.2.2.2.2.2.2.below hBz)))))))
          generalize (wA.ext z) = wC at *
          clear KA hBz c1a c1b c2a c2b l1 l2
          have s3 : wC.cell? ⟨fb, 3, none⟩ = some (.slice (some ⟨db, 0, none⟩) N N) := KB.out.1.bf.is 3 (by omega)
          have sd := KB.out.2.2.2.1.bd.is aa haa
          rw [if_pos (by omega)] at sd
          have sc := (KB.out.2.2.2.1.rd aa (by omega)).2.is b hlb
          have sz := (KB.out.2.2.2.1.rd aa (by omega)).2.fz b hlb
          have l5 := KB.out.1.bf.lt
          have l6 := KB.out.2.2.2.1.bd.lt
          have l7 := (KB.out.2.2.2.1.rd aa (by omega)).2.lt
          have hlg := (KB.out.2.2.2.1.rd aa (by omega)).1
          have hD9 := KB.out.2.2.2.1.setD aa b 1048576 (by omega) hlb
          have hk9 : KeptL lb4 (fun y => y = 2000 + aa) wC (wC.setCell ⟨dr3 aa, b, none⟩ (.int .i64 ((1048576 : Nat)))) := (KeptL.refl lb4 (fun y => y = 2000 + aa) wC).set hlg _
          have hqb5 : Blk (wC.setCell ⟨dr3 aa, b, none⟩ (.int .i64 ((1048576 : Nat)))) qa 2 (fc (.int .i64 (q.1)) (.int .i64 (q.2)) (.int .i64 (0)) (.int .i64 (0))) := by
            exact KB.out.2.2.2.2.2.2.kept ((KeptBut.refl (dr3 aa) wC).set (Or.inl rfl) _) (by omega)
          have M1 := hid (KB.out.1.keptL hk9 (fun _ _ => rfl) (fun x hx => by omega))
          have M2 := hid (KB.out.2.1.keptL hk9 (by omega))
          have M3 := hid (KB.out.2.2.1.keptL hk9 (by omega))
          have M4 := hid hD9
          have M5 := hid KB.out.2.2.2.2.1
          have M6 := hid (KB.out.2.2.2.2.2.1.keptL hk9 (by rw [KB.out.2.2.2.2.1]; omega))
          obtain ⟨dg, hdg⟩ : ∃ x, dr3 aa = x := ⟨_, rfl⟩
          have HDG := hid hdg
          rw [hdg] at sd sc sz l7 M1 M2 M3 M4 M6 hqb5
          clear hD9 hk9 hlg hdg KB
          have x1 : (wC.setCell ⟨dg, b, none⟩ (.int .i64 ((1048576 : Nat)))).cell? ⟨pa, 0, none⟩ = some (.int .i64 (p.1)) := M6.out.is 0 (by omega)
          have x2 : (wC.setCell ⟨dg, b, none⟩ (.int .i64 ((1048576 : Nat)))).cell? ⟨pa, 1, none⟩ = some (.int .i64 (p.2)) := M6.out.is 1 (by omega)
          have x3 : (wC.setCell ⟨dg, b, none⟩ (.int .i64 ((1048576 : Nat)))).cell? ⟨qa, 0, none⟩ = some (.int .i64 (q.1)) := hqb5.is 0 (by omega)
          have x4 : (wC.setCell ⟨dg, b, none⟩ (.int .i64 ((1048576 : Nat)))).cell? ⟨qa, 1, none⟩ = some (.int .i64 (q.2)) := hqb5.is 1 (by omega)
          have l8 := M6.out.lt
          have l9 := hqb5.lt
          have ip1 : I64 p.1 := ⟨by omega, by omega⟩
          have ip2 : I64 p.2 := ⟨by omega, by omega⟩
          have iq1 : I64 q.1 := ⟨by omega, by omega⟩
          have iq2 : I64 q.2 := ⟨by omega, by omega⟩
          have e1 := M1.out.nb.ib.look2 ip1 ip2 (isB bl p) isB_iff
          have e2 := M1.out.nb.ib.look2 iq1 iq2 (isB bl q) isB_iff
          have y1 := sq_bd (x := p.1 - q.1) ⟨by omega, by omega⟩
          have y2 := sq_bd (x := p.2 - q.2) ⟨by omega, by omega⟩
          have hadj : adjP pl bl aa b = (decide ((p.1 - q.1) * (p.1 - q.1) + (p.2 - q.2) * (p.2 - q.2) = 1) && !(isB bl p && isB bl q)) := by
            unfold adjP
            rw [HPA.out, HQA.out]
          rw [show ((1048576 : Nat) : Int) = 1048576 from rfl] at x1 x2 x3 x4 e1 e2 M1 M2 M3 M4 M6 l8 l9
          simp only [World.size_setCell] at l8 l9
          clear ip1 ip2 iq1 iq2 hqb5
          by_cases g1 : (p.1 - q.1) * (p.1 - q.1) + (p.2 - q.2) * (p.2 - q.2) = 1
          · have g1' : ((p.1 - q.1) * (p.1 - q.1) + (p.2 - q.2) * (p.2 - q.2) == 1) = true := by simp [g1]
            cases hbp : isB bl p with
            | false =>
              have HAJ : Hid (adjP pl bl aa b = true) := by show adjP pl bl aa b = true; rw [hadj, hbp]; simp [g1]
              rw [hbp] at e1
              clear hadj hbp g1
              go_wp2
              generalize (wC.setCell ⟨dg, b, none⟩ (.int .i64 (1048576))) = w5 at *
              clear x1 x2 x3 x4 e1 e2 s3 sd sc sz l5 l6 l7 l8 l9 g1' y1 y2
              have hbl9 : b ≤ 384 := by omega
              have hLb : (nearP pl bl aa b).length ≤ b := nearP_len pl bl aa b
              have hnl : ndl pl bl N aa b aa = nearP pl bl aa b := by unfold ndl; rw [if_neg (by omega), if_pos rfl]
              have hLA := M4.out.rn aa haa
              rw [hnl] at hLA
              obtain ⟨L, hL⟩ : ∃ x, nearP pl bl aa b = x := ⟨_, rfl⟩
              rw [hL] at hLA hLb
              obtain ⟨no, nc, hnv⟩ := hLA.val
              have HLA := hid hLA
              have s2 : w5.cell? ⟨fb, 2, none⟩ = some (.slice (some ⟨nb, 0, none⟩) N N) := M1.out.bf.is 2 (by omega)
              have sn : w5.cell? ⟨nb, aa, none⟩ = some (.slice no L.length nc) := by rw [← hnv]; exact M4.out.bn.is aa haa
              have hl5 := M1.out.bf.lt
              have hl6 := M4.out.bn.lt
              have HL := hid hL
              have HNV := hid hnv
              clear hL hnv hLA hnl
              refine wp_region_tree 16 (fun w' => w'.cell? ⟨fb, 2, none⟩ = some (.slice (some ⟨nb, 0, none⟩) N N) ∧ w'.cell? ⟨nb, aa, none⟩ = some (.slice no L.length nc)) (.q 0 false (.q 1 false (.q 2 false (.q 3 true (.q 4 false (.q 5 false (.q 6 false (.q 7 false (.q 8 true (.q 9 false (.q 10 false (.q 11 true (.q 12 false (.one 13 true (.one 14 true (.q 15 false (.one 16 false .nil))))))))))))))))) (by kernel_rfl) (by kernel_rfl) (by kernel_rfl) ?_ ?_
              · simp [go_sem, ↓IntWalk.iteOmega, *]
              repeat (first | (refine wpTr_qf (v := ?_) rfl rfl ?_ ?_; rotate_left; focus (intro w; go_simp; (try (with_reducible rfl)); done); try simp only [List.getElem_toArray, List.getElem_cons_zero, List.getElem_cons_succ, Act.put, List.setIfInBounds_toArray, List.set_cons_zero, List.set_cons_succ]) | (refine wpTr_qt (v := ?_) rfl rfl ?_ ?_; rotate_left; focus (intro w hSw; (try dsimp only at hSw); go_simp; (try (with_reducible rfl)); done); try simp only [List.getElem_toArray, List.getElem_cons_zero, List.getElem_cons_succ, Act.put, List.setIfInBounds_toArray, List.set_cons_zero, List.set_cons_succ]))
              refine wpTr_one rfl rfl (fun K hK => ?_)
              go_simp
              refine hK.out _ _ (fun _ => by simp [go_sem, ↓IntWalk.iteOmega, *]) ?_
              clear hK K
              refine wpTr_one rfl rfl (fun K hK => ?_)
              refine wp_ls _ _ 32 3 (.int .i64 (0)) 1 8 rfl Try.underlying32 (by kernel_rfl) rfl (by decide) lb4 (1000 + aa) (.slice no L.length nc) L.length (irow L) (by simp [go_sem]) (by rw [← HNV.out]; exact HLA.out.below (by (repeat (first | with_reducible exact Below.rf _ | with_reducible exact World.below_ext _ _ | with_reducible refine Below.ex ?_ _ | with_reducible refine Below.al ?_ _ | with_reducible refine Below.setCell ?_ (by simp) _ | with_reducible refine Below.drew ?_)))) w5.heap.size 1 1 (irow [(b : Int)]) (by decide) (by omega) (by omega) (by simp [go_sem]) rfl ?_ ?_ ?_
              · intro j u hj
                have hj2 := (List.getElem?_eq_some_iff.1 hj).1
                simp [irow] at hj2
                obtain rfl : j = 0 := by omega
                simp [irow] at hj
                subst hj
                simp [go_sem, ↓IntWalk.iteOmega]
              · simp [irow, Value.oneCell']
              intro v' w8 lb8 hls hlab hk8
              rw [← irow_app] at hls
              obtain ⟨vo, vc, rfl⟩ := hls.val
              have hs8 := hk8.size
              simp only [World.size_alloc, World.size_drew] at hs8
              have hB2 : Below w5.heap.size w5 ((w5.alloc (Obj.cells #[.int .i64 (b)] 3)).drew) := by (repeat (first | with_reducible exact Below.rf _ | with_reducible exact World.below_ext _ _ | with_reducible refine Below.ex ?_ _ | with_reducible refine Below.al ?_ _ | with_reducible refine Below.setCell ?_ (by simp) _ | with_reducible refine Below.drew ?_))
              have hF8 := (M1.out.below hB2).keptL (lb' := lb8) hk8 hlab (fun x hx => by omega)
              have hP8 := (M2.out.below hB2).of hk8.size (fun b h1 h2 => hk8.block b h1 (by rw [h2]; omega)) hlab
              have hY8 := (M3.out.below hB2).of hk8.size (fun b h1 h2 => hk8.block b h1 (by rw [h2]; omega)) hlab
              have hb8 := (M6.out.below hB2).keptL hk8 (by rw [M5.out]; omega)
              have hl8 : lb8 pa = 0 := (hlab _ (by have := M6.out.lt; simp; omega)).trans M5.out
              have hD8 := (M4.out.below hB2).setN aa haa (.slice vo (L.length + 1) vc) (L ++ [(b : Int)]) hk8 hlab (by rw [List.length_append]; exact hls)
              have hn8 : lb8 nb = 8 := (hlab _ (by simp; omega)).trans M4.out.l8
              have hk9 : KeptL lb8 (fun x => x = 8) w8 (w8.setCell ⟨nb, aa, none⟩ (.slice vo (L.length + 1) vc)) := (KeptL.refl lb8 (fun x => x = 8) w8).set hn8 _
              have s28 : w8.cell? ⟨fb, 2, none⟩ = some (.slice (some ⟨nb, 0, none⟩) N N) := hF8.bf.is 2 (by omega)
              have bn8 := (M4.out.bn.below hB2).keptL hk8 (by rw [M4.out.l8]; omega)
              have sn8 : w8.cell? ⟨nb, aa, none⟩ = some (.slice no L.length nc) := by rw [← HNV.out]; exact bn8.is aa haa
              have zn8 : w8.frozen? ⟨nb, aa, none⟩ = false := bn8.fz aa haa
              have KK := hid (And.intro (hF8.keptL hk9 (fun _ _ => rfl) (fun x hx => by omega)) (And.intro (hP8.keptL hk9 (by omega)) (And.intro (hY8.keptL hk9 (by omega)) (And.intro hD8 (And.intro hl8 (hb8.keptL hk9 (by rw [hl8]; omega)))))))
              refine hK.out _ _ (fun _ => ⟨s28, sn8⟩) ?_
              clear hK K hls hF8 hP8 hY8 hb8 hl8 hD8 hk9 bn8 hB2 hk8
              simp only [Act.put, List.setIfInBounds_toArray, List.set_cons_zero, List.set_cons_succ]
              repeat (first | (refine wpTr_qf (v := ?_) rfl rfl ?_ ?_; rotate_left; focus (intro w; go_simp; (try (with_reducible rfl)); done); try simp only [List.getElem_toArray, List.getElem_cons_zero, List.getElem_cons_succ, Act.put, List.setIfInBounds_toArray, List.set_cons_zero, List.set_cons_succ]) | (refine wpTr_qt (v := ?_) rfl rfl ?_ ?_; rotate_left; focus (intro w hSw; (try dsimp only at hSw); go_simp; (try (with_reducible rfl)); done); try simp only [List.getElem_toArray, List.getElem_cons_zero, List.getElem_cons_succ, Act.put, List.setIfInBounds_toArray, List.set_cons_zero, List.set_cons_succ]))
              refine wpTr_one rfl rfl (fun K hK => ?_)
              go_simp
              refine hK.out _ _ (fun h => by cases h) ?_
              clear hK K
              refine wpTr_nil ?_
              refine NoPanic.normal ?_
              generalize (w8.setCell ⟨nb, aa, none⟩ (.slice vo (L.length + 1) vc)) = w9 at *
              have t3 : w9.cell? ⟨fb, 3, none⟩ = some (.slice (some ⟨db, 0, none⟩) N N) := KK.out.1.bf.is 3 (by omega)
              have td := KK.out.2.2.2.1.bd.is aa haa
              rw [if_pos (by omega), HDG.out] at td
              have tc := (KK.out.2.2.2.1.rd aa (by omega)).2.is b hlb
              have tz := (KK.out.2.2.2.1.rd aa (by omega)).2.fz b hlb
              have t4 := KK.out.1.bf.lt
              have t5 := KK.out.2.2.2.1.bd.lt
              have t6 := (KK.out.2.2.2.1.rd aa (by omega)).2.lt
              have tg := (KK.out.2.2.2.1.rd aa (by omega)).1
              rw [HDG.out] at tc tz t6 tg
              have hk10 : KeptL lb8 (fun y => y = 2000 + aa) w9 (w9.setCell ⟨dg, b, none⟩ (.int .i64 ((1 : Nat)))) := (KeptL.refl lb8 (fun y => y = 2000 + aa) w9).set tg _
              have hD10 := KK.out.2.2.2.1.setD aa b 1 (by omega) hlb
              rw [HDG.out] at hD10
              have KL := hid (And.intro (KK.out.1.keptL hk10 (fun _ _ => rfl) (fun x hx => by omega)) (And.intro (KK.out.2.1.keptL hk10 (by omega)) (And.intro (KK.out.2.2.1.keptL hk10 (by omega)) (And.intro hD10 (And.intro KK.out.2.2.2.2.1 (KK.out.2.2.2.2.2.keptL hk10 (by rw [KK.out.2.2.2.2.1]; omega)))))))
              clear hk10 hD10 KK tg
              go_wp2
              go_roundw
              case rel =>
                refine ⟨b + 1, lb8, upd nv4 aa (.slice vo (L.length + 1) vc), by go_num, by omega, KL.out.1, KL.out.2.1, KL.out.2.2.1, ?_, KL.out.2.2.2.2.1, KL.out.2.2.2.2.2⟩
                rw [ndl_adj HAJ.out, HL.out]
                exact KL.out.2.2.2.1.cong (fun i j hi hj => ddv_adj HAJ.out i j)
              case measure => simp [intOf]; omega
            | true =>
              cases hbq : isB bl q with
              | false =>
                have HAJ : Hid (adjP pl bl aa b = true) := by show adjP pl bl aa b = true; rw [hadj, hbp, hbq]; simp [g1]
                rw [hbp] at e1
                rw [hbq] at e2
                clear hadj hbp hbq g1
                go_wp2
                generalize (wC.setCell ⟨dg, b, none⟩ (.int .i64 (1048576))) = w5 at *
                clear x1 x2 x3 x4 e1 e2 s3 sd sc sz l5 l6 l7 l8 l9 g1' y1 y2
                have hbl9 : b ≤ 384 := by omega
                have hLb : (nearP pl bl aa b).length ≤ b := nearP_len pl bl aa b
                have hnl : ndl pl bl N aa b aa = nearP pl bl aa b := by unfold ndl; rw [if_neg (by omega), if_pos rfl]
                have hLA := M4.out.rn aa haa
                rw [hnl] at hLA
                obtain ⟨L, hL⟩ : ∃ x, nearP pl bl aa b = x := ⟨_, rfl⟩
                rw [hL] at hLA hLb
                obtain ⟨no, nc, hnv⟩ := hLA.val
                have HLA := hid hLA
                have s2 : w5.cell? ⟨fb, 2, none⟩ = some (.slice (some ⟨nb, 0, none⟩) N N) := M1.out.bf.is 2 (by omega)
                have sn : w5.cell? ⟨nb, aa, none⟩ = some (.slice no L.length nc) := by rw [← hnv]; exact M4.out.bn.is aa haa
                have hl5 := M1.out.bf.lt
                have hl6 := M4.out.bn.lt
                have HL := hid hL
                have HNV := hid hnv
                clear hL hnv hLA hnl
                refine wp_region_tree 16 (fun w' => w'.cell? ⟨fb, 2, none⟩ = some (.slice (some ⟨nb, 0, none⟩) N N) ∧ w'.cell? ⟨nb, aa, none⟩ = some (.slice no L.length nc)) (.q 0 false (.q 1 false (.q 2 false (.q 3 true (.q 4 false (.q 5 false (.q 6 false (.q 7 false (.q 8 true (.q 9 false (.q 10 false (.q 11 true (.q 12 false (.one 13 true (.one 14 true (.q 15 false (.one 16 false .nil))))))))))))))))) (by kernel_rfl) (by kernel_rfl) (by kernel_rfl) ?_ ?_
                · simp [go_sem, ↓IntWalk.iteOmega, *]
                repeat (first | (refine wpTr_qf (v := ?_) rfl rfl ?_ ?_; rotate_left; focus (intro w; go_simp; (try (with_reducible rfl)); done); try simp only [List.getElem_toArray, List.getElem_cons_zero, List.getElem_cons_succ, Act.put, List.setIfInBounds_toArray, List.set_cons_zero, List.set_cons_succ]) | (refine wpTr_qt (v := ?_) rfl rfl ?_ ?_; rotate_left; focus (intro w hSw; (try dsimp only at hSw); go_simp; (try (with_reducible rfl)); done); try simp only [List.getElem_toArray, List.getElem_cons_zero, List.getElem_cons_succ, Act.put, List.setIfInBounds_toArray, List.set_cons_zero, List.set_cons_succ]))
                refine wpTr_one rfl rfl (fun K hK => ?_)
                go_simp
                refine hK.out _ _ (fun _ => by simp [go_sem, ↓IntWalk.iteOmega, *]) ?_
                clear hK K
                refine wpTr_one rfl rfl (fun K hK => ?_)
                refine wp_ls _ _ 32 3 (.int .i64 (0)) 1 8 rfl Try.underlying32 (by kernel_rfl) rfl (by decide) lb4 (1000 + aa) (.slice no L.length nc) L.length (irow L) (by simp [go_sem]) (by rw [← HNV.out]; exact HLA.out.below (by (repeat (first | with_reducible exact Below.rf _ | with_reducible exact World.below_ext _ _ | with_reducible refine Below.ex ?_ _ | with_reducible refine Below.al ?_ _ | with_reducible refine Below.setCell ?_ (by simp) _ | with_reducible refine Below.drew ?_)))) w5.heap.size 1 1 (irow [(b : Int)]) (by decide) (by omega) (by omega) (by simp [go_sem]) rfl ?_ ?_ ?_
                · intro j u hj
                  have hj2 := (List.getElem?_eq_some_iff.1 hj).1
                  simp [irow] at hj2
                  obtain rfl : j = 0 := by omega
                  simp [irow] at hj
                  subst hj
                  simp [go_sem, ↓IntWalk.iteOmega]
                · simp [irow, Value.oneCell']
                intro v' w8 lb8 hls hlab hk8
                rw [← irow_app] at hls
                obtain ⟨vo, vc, rfl⟩ := hls.val
                have hs8 := hk8.size
                simp only [World.size_alloc, World.size_drew] at hs8
                have hB2 : Below w5.heap.size w5 ((w5.alloc (Obj.cells #[.int .i64 (b)] 3)).drew) := by (repeat (first | with_reducible exact Below.rf _ | with_reducible exact World.below_ext _ _ | with_reducible refine Below.ex ?_ _ | with_reducible refine Below.al ?_ _ | with_reducible refine Below.setCell ?_ (by simp) _ | with_reducible refine Below.drew ?_))
                have hF8 := (M1.out.below hB2).keptL (lb' := lb8) hk8 hlab (fun x hx => by omega)
                have hP8 := (M2.out.below hB2).of hk8.size (fun b h1 h2 => hk8.block b h1 (by rw [h2]; omega)) hlab
                have hY8 := (M3.out.below hB2).of hk8.size (fun b h1 h2 => hk8.block b h1 (by rw [h2]; omega)) hlab
                have hb8 := (M6.out.below hB2).keptL hk8 (by rw [M5.out]; omega)
                have hl8 : lb8 pa = 0 := (hlab _ (by have := M6.out.lt; simp; omega)).trans M5.out
                have hD8 := (M4.out.below hB2).setN aa haa (.slice vo (L.length + 1) vc) (L ++ [(b : Int)]) hk8 hlab (by rw [List.length_append]; exact hls)
                have hn8 : lb8 nb = 8 := (hlab _ (by simp; omega)).trans M4.out.l8
                have hk9 : KeptL lb8 (fun x => x = 8) w8 (w8.setCell ⟨nb, aa, none⟩ (.slice vo (L.length + 1) vc)) := (KeptL.refl lb8 (fun x => x = 8) w8).set hn8 _
                have s28 : w8.cell? ⟨fb, 2, none⟩ = some (.slice (some ⟨nb, 0, none⟩) N N) := hF8.bf.is 2 (by omega)
                have bn8 := (M4.out.bn.below hB2).keptL hk8 (by rw [M4.out.l8]; omega)
                have sn8 : w8.cell? ⟨nb, aa, none⟩ = some (.slice no L.length nc) := by rw [← HNV.out]; exact bn8.is aa haa
                have zn8 : w8.frozen? ⟨nb, aa, none⟩ = false := bn8.fz aa haa
                have KK := hid (And.intro (hF8.keptL hk9 (fun _ _ => rfl) (fun x hx => by omega)) (And.intro (hP8.keptL hk9 (by omega)) (And.intro (hY8.keptL hk9 (by omega)) (And.intro hD8 (And.intro hl8 (hb8.keptL hk9 (by rw [hl8]; omega)))))))
                refine hK.out _ _ (fun _ => ⟨s28, sn8⟩) ?_
                clear hK K hls hF8 hP8 hY8 hb8 hl8 hD8 hk9 bn8 hB2 hk8
                simp only [Act.put, List.setIfInBounds_toArray, List.set_cons_zero, List.set_cons_succ]
                repeat (first | (refine wpTr_qf (v := ?_) rfl rfl ?_ ?_; rotate_left; focus (intro w; go_simp; (try (with_reducible rfl)); done); try simp only [List.getElem_toArray, List.getElem_cons_zero, List.getElem_cons_succ, Act.put, List.setIfInBounds_toArray, List.set_cons_zero, List.set_cons_succ]) | (refine wpTr_qt (v := ?_) rfl rfl ?_ ?_; rotate_left; focus (intro w hSw; (try dsimp only at hSw); go_simp; (try (with_reducible rfl)); done); try simp only [List.getElem_toArray, List.getElem_cons_zero, List.getElem_cons_succ, Act.put, List.setIfInBounds_toArray, List.set_cons_zero, List.set_cons_succ]))
                refine wpTr_one rfl rfl (fun K hK => ?_)
                go_simp
                refine hK.out _ _ (fun h => by cases h) ?_
                clear hK K
                refine wpTr_nil ?_
                refine NoPanic.normal ?_
                generalize (w8.setCell ⟨nb, aa, none⟩ (.slice vo (L.length + 1) vc)) = w9 at *
                have t3 : w9.cell? ⟨fb, 3, none⟩ = some (.slice (some ⟨db, 0, none⟩) N N) := KK.out.1.bf.is 3 (by omega)
                have td := KK.out.2.2.2.1.bd.is aa haa
                rw [if_pos (by omega), HDG.out] at td
                have tc := (KK.out.2.2.2.1.rd aa (by omega)).2.is b hlb
                have tz := (KK.out.2.2.2.1.rd aa (by omega)).2.fz b hlb
                have t4 := KK.out.1.bf.lt
                have t5 := KK.out.2.2.2.1.bd.lt
                have t6 := (KK.out.2.2.2.1.rd aa (by omega)).2.lt
                have tg := (KK.out.2.2.2.1.rd aa (by omega)).1
                rw [HDG.out] at tc tz t6 tg
                have hk10 : KeptL lb8 (fun y => y = 2000 + aa) w9 (w9.setCell ⟨dg, b, none⟩ (.int .i64 ((1 : Nat)))) := (KeptL.refl lb8 (fun y => y = 2000 + aa) w9).set tg _
                have hD10 := KK.out.2.2.2.1.setD aa b 1 (by omega) hlb
                rw [HDG.out] at hD10
                have KL := hid (And.intro (KK.out.1.keptL hk10 (fun _ _ => rfl) (fun x hx => by omega)) (And.intro (KK.out.2.1.keptL hk10 (by omega)) (And.intro (KK.out.2.2.1.keptL hk10 (by omega)) (And.intro hD10 (And.intro KK.out.2.2.2.2.1 (KK.out.2.2.2.2.2.keptL hk10 (by rw [KK.out.2.2.2.2.1]; omega)))))))
                clear hk10 hD10 KK tg
                go_wp2
                go_roundw
                case rel =>
                  refine ⟨b + 1, lb8, upd nv4 aa (.slice vo (L.length + 1) vc), by go_num, by omega, KL.out.1, KL.out.2.1, KL.out.2.2.1, ?_, KL.out.2.2.2.2.1, KL.out.2.2.2.2.2⟩
                  rw [ndl_adj HAJ.out, HL.out]
                  exact KL.out.2.2.2.1.cong (fun i j hi hj => ddv_adj HAJ.out i j)
                case measure => simp [intOf]; omega
              | true =>
                have HAJ : Hid (adjP pl bl aa b = false) := by show adjP pl bl aa b = false; rw [hadj, hbp, hbq]; simp
                rw [hbp] at e1
                rw [hbq] at e2
                clear hadj hbp hbq g1
                go_wp2
                go_roundw
                case rel =>
                  refine ⟨b + 1, lb4, nv4, by go_num, by omega, M1.out, M2.out, M3.out, ?_, M5.out, M6.out⟩
                  rw [ndl_no HAJ.out]
                  exact M4.out.cong (fun i j hi hj => ddv_no HAJ.out i j)
                case measure => simp [intOf]; omega
          · have g1' : ((p.1 - q.1) * (p.1 - q.1) + (p.2 - q.2) * (p.2 - q.2) == 1) = false := by simp [g1]
            have HAJ : Hid (adjP pl bl aa b = false) := by show adjP pl bl aa b = false; rw [hadj]; simp [g1]
            clear hadj g1
            go_wp2
            go_roundw
            case rel =>
              refine ⟨b + 1, lb4, nv4, by go_num, by omega, M1.out, M2.out, M3.out, ?_, M5.out, M6.out⟩
              rw [ndl_no HAJ.out]
              exact M4.out.cong (fun i j hi hj => ddv_no HAJ.out i j)
            case measure => simp [intOf]; omega
          --END 8
        · have hbe : N = b := by omega
          subst hbe
          have s3 : wr.cell? ⟨fb, 3, none⟩ = some (.slice (some ⟨db, 0, none⟩) N N) := J1.out.bf.is 3 (by omega)
          have sd := J4.out.bd.is aa haa
          rw [if_pos (by omega)] at sd
          have sc := (J4.out.rd aa (by omega)).2.is aa haa
          have sz := (J4.out.rd aa (by omega)).2.fz aa haa
          have l5 := J1.out.bf.lt
          have l6 := J4.out.bd.lt
          have l7 := (J4.out.rd aa (by omega)).2.lt
          have hlg := (J4.out.rd aa (by omega)).1
          have hD9 := J4.out.setD aa aa 0 (by omega) haa
          have hk9 : KeptL lb4 (fun y => y = 2000 + aa) wr (wr.setCell ⟨dr3 aa, aa, none⟩ (.int .i64 ((0 : Nat)))) := (KeptL.refl lb4 (fun y => y = 2000 + aa) wr).set hlg _
          have KC := hid (And.intro (J1.out.keptL hk9 (fun _ _ => rfl) (fun x hx => by omega)) (And.intro (J2.out.keptL hk9 (by omega)) (And.intro (J3.out.keptL hk9 (by omega)) hD9)))
          obtain ⟨dg, hdg⟩ : ∃ x, dr3 aa = x := ⟨_, rfl⟩
          rw [hdg] at sd sc sz l7 KC
          have HDG := hid hdg
          clear hD9 hk9 hlg hdg J1 J2 J3 J4 J5 J6
          go_wp2
          go_roundw
          case rel =>
            refine ⟨aa + 1, lb4, nv4, dr3, by go_num, by omega, KC.out.1, KC.out.2.1, KC.out.2.2.1, ?_⟩
            have e6 : ndl pl bl N aa N = fun x => if x < aa + 1 then nearP pl bl x N else [] := by
              funext x
              unfold ndl
              by_cases g : x < aa
              · rw [if_pos g, if_pos (by omega)]
              · rw [if_neg g]
                by_cases g2 : x = aa
                · subst g2; rw [if_pos rfl, if_pos (by omega)]
                · rw [if_neg g2, if_neg (by omega)]
            have := KC.out.2.2.2
            rw [e6] at this
            refine this.cong (fun i j hi hj => ?_)
            unfold ddv dist0
            by_cases g : i = aa
            · subst g
              by_cases g2 : j = i
              · subst g2; rw [if_pos ⟨rfl, rfl⟩, if_pos rfl]
              · rw [if_neg (fun h => g2 h.2), if_pos rfl, if_pos hj, if_neg (fun h : i = j => g2 h.symm)]
            · rw [if_neg (fun h => g h.1), if_neg g]
          case measure => simp [intOf]; omega
      --END 7
    · have haE : N = aa := by omega
      subst haE
      go_wp2
      exact ⟨lb2, nv2, dr2, ⟨J1.out, J2.out, J3.out, J4.out⟩, _, _, _, _, _, _, _, _, _, _, _, _, _, _, _, _, _, _, _, _, _, _, _, _, _, _, _, _, _, _, _, _, _, _, _, _, _, _, _, _, _, _, _, _, _, _, _, _, _, _, _, _, _, _, _, _, _, _, _, _, _, _, _, _, _, _, _, _, _, _, _, _, _, _, _, _, _, _, _, _, _, _, _, _, _, _, _, _, _, _, _, _, _, _, _, _, _, _, _, _, _, _, _, rfl⟩
end Go.Proofs.Qxb6500716a
