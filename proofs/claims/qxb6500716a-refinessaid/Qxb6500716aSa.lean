/-
  Solve: what it holds, and two of its loops, cut out.
-/
import Derived.Test.Qxb6500716aLg
import Derived.Test.Qxb6500716aSk
import Derived.Test.Qxb6500716aUc
import Derived.Test.Qxb6500716aAs
namespace Go.Proofs.Qxb6500716a
open Go.RowKit Go.Maps
set_option linter.unusedSimpArgs false
set_option linter.unusedVariables false
set_option maxRecDepth 20000
set_option maxHeartbeats 4000000
def SetR (R : Nat → Nat → Nat → Prop) (i : Nat) : Lit → Prop := fun kl => ∃ c l : Nat, kl = key2 c l ∧ c ≤ 1000000 ∧ l ≤ 1000000 ∧ R i c l
/-- The states that were reached, in memory: one map for each offset. -/
structure Rd (w : World) (lb : Nat → Nat) (rb H : Nat) (mm : Nat → Nat) (R : Nat → Nat → Nat → Prop) (B : Nat) : Prop where
  b : Blk w rb (H + 1) (fun i => .map (some (mm i)))
  lr : lb rb = 2
  m : ∀ i, i ≤ H → lb (mm i) = 100 + i ∧ ∃ cn, cn ≤ B ∧ BAt 125 w (mm i) cn (SetR R i)
def addR (R : Nat → Nat → Nat → Prop) (i c l : Nat) : Nat → Nat → Nat → Prop := fun i' c' l' => (i' = i ∧ c' = c ∧ l' = l) ∨ R i' c' l'
theorem key_nat {a b c d : Nat} (ha : a ≤ 1000000) (hb : b ≤ 1000000) (hc : c ≤ 1000000) (hd : d ≤ 1000000) (h : key2 a b = key2 c d) : a = c ∧ b = d := by
  have := key2_inj (I64.nat (by omega)) (I64.nat (by omega)) (I64.nat (by omega)) (I64.nat (by omega)) h
  omega
section
variable {w w' : World} {lb : Nat → Nat} {rb H B : Nat} {mm : Nat → Nat} {R : Nat → Nat → Nat → Prop}
theorem Rd.below (h : Rd w lb rb H mm R B) (hb : Below w.heap.size w w') : Rd w' lb rb H mm R B := ⟨h.b.below hb, h.lr, fun i hi => by
  obtain ⟨h1, cn, h2, h3⟩ := h.m i hi
  exact ⟨h1, cn, h2, h3.below hb⟩⟩
theorem Rd.look (h : Rd w lb rb H mm R B) {i c l : Nat} (hi : i ≤ H) (hc : c ≤ 1000000) (hl : l ≤ 1000000) (x : Bool) (hx : R i c l ↔ x = true) : (Instr.lookup 123 (.map (some (mm i))) (.agg #[.int .i64 (c), .int .i64 (l)]) false).run Try.prog w = .ok (.bool x) w := by
  obtain ⟨-, cn, -, h3⟩ := h.m i hi
  refine look125 h3 (I64.nat (by omega)) (I64.nat (by omega)) x ?_
  rw [← hx]
  constructor
  · rintro ⟨c', l', e, h1, h2, h4⟩
    obtain ⟨rfl, rfl⟩ := key_nat hc hl h1 h2 e
    exact h4
  · exact fun h4 => ⟨c, l, rfl, hc, hl, h4⟩
theorem Rd.put (h : Rd w lb rb H mm R B) {i c l : Nat} (hi : i ≤ H) (hc : c ≤ 1000000) (hl : l ≤ 1000000) (hB : B < 900000000) :
    ∃ w', (Instr.mapUpdate 123 (.map (some (mm i))) (.agg #[.int .i64 (c), .int .i64 (l)]) (.bool true)).run Try.prog w = .ok () w' ∧ Rd w' lb rb H mm (addR R i c l) (B + 1) ∧ w.grownBy w' (some (mm i)) := by
  obtain ⟨h1, cn, h2, h3⟩ := h.m i hi
  obtain ⟨w', r1, r2, r3⟩ := put125 h3 (by omega) (I64.nat (n := c) (by omega)) (I64.nat (n := l) (by omega))
  refine ⟨w', r1, ⟨h.b.of_block r3.size (r3.block rb h.b.lt (fun e => by have := h.lr; rw [show rb = mm i from Option.some.inj e, h1] at this; omega)), h.lr, fun j hj => ?_⟩, r3⟩
  obtain ⟨k1, cn2, k2, k3⟩ := h.m j hj
  by_cases e : j = i
  · subst e
    refine ⟨h1, cn + 1, by omega, r2.congr (fun kl => ?_)⟩
    constructor
    · rintro (rfl | ⟨c', l', e1, e2, e3, e4⟩)
      · exact ⟨c, l, rfl, hc, hl, Or.inl ⟨rfl, rfl, rfl⟩⟩
      · exact ⟨c', l', e1, e2, e3, Or.inr e4⟩
    · rintro ⟨c', l', rfl, e2, e3, ⟨-, rfl, rfl⟩ | e4⟩
      · exact Or.inl rfl
      · exact Or.inr ⟨c', l', rfl, e2, e3, e4⟩
  · refine ⟨k1, cn2, by omega, ?_⟩
    have h4 : BAt 125 w' (mm j) cn2 (SetR R j) := k3.of_block (r3.block _ k3.lt (fun e2 => by have e3 := Option.some.inj e2; rw [e3, h1] at k1; omega))
    refine h4.congr (fun kl => ?_)
    constructor
    · rintro ⟨c', l', e1, e2, e3, e4⟩
      exact ⟨c', l', e1, e2, e3, Or.inr e4⟩
    · rintro ⟨c', l', e1, e2, e3, ⟨e5, -, -⟩ | e4⟩
      · exact absurd e5 e
      · exact ⟨c', l', e1, e2, e3, e4⟩
theorem Rd.mono (h : Rd w lb rb H mm R B) {B' : Nat} (hB : B ≤ B') : Rd w lb rb H mm R B' := ⟨h.b, h.lr, fun i hi => by
  obtain ⟨h1, cn, h2, h3⟩ := h.m i hi
  exact ⟨h1, cn, by omega, h3⟩⟩
end
/-- A store into one of the maps. -/
theorem wpList_put_r (w : World) {ops : Array Oper} {rest : List Oper} {o : Oper} {a : Act} {Q : Exit → Act → World → Prop} (hg : o.guard = none) (m x v : Operand) (hop : o.op = Op.mapUpdate 123 m x v)
    {lb : Nat → Nat} {rb H B : Nat} {mm : Nat → Nat} {R : Nat → Nat → Nat → Prop} (i c l : Nat) (h : Rd w lb rb H mm R B) (hi : i ≤ H) (hc : c ≤ 1000000) (hl : l ≤ 1000000) (hB : B < 900000000) (hm : a.eval m = .map (some (mm i))) (hx : a.eval x = .agg #[.int .i64 (c), .int .i64 (l)]) (hv : a.eval v = .bool true)
    (hK : ∀ w', Rd w' lb rb H mm (addR R i c l) (B + 1) → w.grownBy w' (some (mm i)) → wpList Try.prog ops Q rest (a.put o.dst undef) w') : wpList Try.prog ops Q (o :: rest) a w := by
  refine wpList_plain hg fun K' hK' => ?_
  obtain ⟨w', hrun, r1, r2⟩ := h.put hi hc hl hB
  unfold Oper.wp
  simp [execOp, hop, hm, hx, hv, hrun, Result.andThen]
  exact hK' _ _ (hK w' r1 r2)
/-- What stands while Solve works. -/
structure Sg7 (w0 w : World) (lb : Nat → Nat) (sb rb H : Nat) (mm : Nat → Nat) (q : Rq) (gv : Value) (R : Nat → Nat → Nat → Prop) (B : Nat) : Prop where
  bl : Below w0.heap.size w0 w
  lo : ∀ k, k < w0.heap.size → lb k = 0
  s : Blk w sb 6 (rq4 q gv)
  ls : lb sb = 1
  rd : Rd w lb rb H mm R B
section
variable {w0 w w' : World} {lb : Nat → Nat} {sb rb H B : Nat} {mm : Nat → Nat} {q : Rq} {gv : Value} {R : Nat → Nat → Nat → Prop}
theorem Sg7.below (h : Sg7 w0 w lb sb rb H mm q gv R B) (hb : Below w.heap.size w w') : Sg7 w0 w' lb sb rb H mm q gv R B := ⟨h.bl.trans (hb.mono h.bl.size), h.lo, h.s.below hb, h.ls, h.rd.below hb⟩
theorem Sg7.put (h : Sg7 w0 w lb sb rb H mm q gv R B) {i : Nat} (hi : i ≤ H) {R' : Nat → Nat → Nat → Prop} {B' : Nat} (hr : Rd w' lb rb H mm R' B') (hg : w.grownBy w' (some (mm i))) : Sg7 w0 w' lb sb rb H mm q gv R' B' := by
  obtain ⟨h1, -⟩ := h.rd.m i hi
  have hne : ∀ k, lb k < 100 → some k ≠ some (mm i) := fun k hk e => by
    rw [Option.some.inj e, h1] at hk
    omega
  refine ⟨⟨hg.os.trans h.bl.os, hg.tape.trans h.bl.tape, hg.output.trans h.bl.output, Nat.le_trans h.bl.size hg.size, fun k hk => ?_⟩, h.lo, h.s.of_block hg.size (hg.block _ h.s.lt (hne _ (by rw [h.ls]; omega))), h.ls, hr⟩
  rw [hg.block k (Nat.lt_of_lt_of_le hk h.bl.size) (hne _ (by rw [h.lo k hk]; omega))]
  exact h.bl.block k hk
theorem Sg7.relab (h : Sg7 w0 w lb sb rb H mm q gv R B) {lb' : Nat → Nat} (hl : ∀ k, k < w.heap.size → lb' k = lb k) : Sg7 w0 w lb' sb rb H mm q gv R B :=
  ⟨h.bl, fun k hk => (hl k (Nat.lt_of_lt_of_le hk h.bl.size)).trans (h.lo k hk), h.s, (hl _ h.s.lt).trans h.ls, ⟨h.rd.b, (hl _ h.rd.b.lt).trans h.rd.lr, fun i hi => by
    obtain ⟨h1, cn, h2, h3⟩ := h.rd.m i hi
    exact ⟨(hl _ h3.lt).trans h1, cn, h2, h3⟩⟩⟩
end
/-- What Solve was handed. -/
structure In7 (w0 : World) (lab : Nat → Nat) (mb fb : Nat) (M : TM) (F : FS) (T : TS) (q : Rq) (gv : Value) : Prop where
  f : FAt w0 lab fb F
  t : TAt w0 lab M T
  m : MoAt w0 mb fb M.t
  g : GAt w0 lab gv q.gl
  r : I64 q.r
  tk : -4000000000 ≤ q.t ∧ q.t ≤ 4000000000
set_option maxRecDepth 1000000 in
set_option maxHeartbeats 400000000 in
theorem dw_loop (w0 w7 : World) (lab lb : Nat → Nat) (mb sb fb rb H B off cell dw : Nat) (mm : Nat → Nat) (M : TM) (F : FS) (T : TS) (q : Rq) (gv : Value) (R : Nat → Nat → Nat → Prop)
    (HI0 : In7 w0 lab mb fb M F T q gv) (HS7 : Sg7 w0 w7 lb sb rb H mm q gv R B) (hdw : dw ≤ 64) (hof : off ≤ 256) (hce : cell ≤ 384)
    (Q0 : Exit → Act → World → Prop) (x1 x2 x4 x5 x6 x7 x8 x9 x10 x11 x13 x18 x19 x20 x21 x22 x23 x24 x25 x26 x27 x28 x29 x30 x31 x32 x33 x34 x35 x36 x37 x38 x39 x40 x41 x42 x43 x44 x45 x46 x47 x48 x49 x50 x51 x52 x53 x54 x55 x56 x57 x58 x59 x60 x61 x62 x63 x64 x65 x66 x67 x68 x69 x70 x71 x72 x73 x74 x75 x76 x77 x78 x79 x80 x81 x82 x83 x84 x85 x86 x87 x88 x89 x90 x91 x92 x93 x94 x95 x96 x97 x98 x99 x100 x101 x102 x103 x104 x105 x106 x107 x108 x109 x110 x111 x112 x113 x114 x115 x116 x117 x118 x119 x120 x121 x122 x123 x124 x125 x126 x127 x128 x129 x130 x131 x132 x133 x134 x135 x136 x137 x138 x139 x140 x141 x142 x143 x144 x145 x146 x147 x148 x149 x150 x151 x152 x153 x154 x155 x156 x157 x158 x159 x160 x161 x162 x163 x164 x165 x166 x167 x168 x169 x170 x171 x172 x173 x174 x175 x176 x177 x178 x179 x180 x181 x182 x183 x184 x185 x186 x187 x188 x189 x190 x191 x192 x193 x194 x195 x196 x197 x198 x199 x200 x201 x202 x203 x204 x205 x206 x207 x208 x209 x210 x211 x212 x213 x214 x215 x216 x217 x218 x219 x220 x221 x222 x223 x224 x225 x226 x227 x228 x229 x230 x231 x232 x233 x234 x235 x236 x237 x238 x239 x240 x241 x242 x243 x244 x245 x246 x247 x248 x249 x250 x251 x252 x253 x254 x255 x256 x257 x258 x259 x260 x261 x262 x263 x264 x265 x266 x267 x268 x269 x270 x271 x272 x273 x274 x275 x276 x277 x278 x279 x280 x281 x282 x283 x284 x285 : Value)
    (hexit : ∀ (a' : Act) (w'' : World), (Below w7.heap.size w7 w'' ∧ ∃ UDW : Nat → Value, a' = ⟨List.toArray (.pointer (some ⟨mb, 0, none⟩) :: x1 :: x2 :: .pointer (some ⟨sb, 0, none⟩) :: x4 :: x5 :: x6 :: x7 :: x8 :: x9 :: x10 :: x11 :: .int .i64 (q.t + off) :: x13 :: .int .i64 (cell) :: .int .i64 (dw) :: (.bool (T.stays q.r cell (q.t + off) 0 dw)) :: UDW 17 :: x18 :: x19 :: x20 :: x21 :: x22 :: x23 :: x24 :: x25 :: x26 :: x27 :: x28 :: x29 :: x30 :: x31 :: x32 :: x33 :: x34 :: x35 :: x36 :: x37 :: x38 :: x39 :: x40 :: x41 :: x42 :: x43 :: x44 :: x45 :: x46 :: x47 :: x48 :: x49 :: x50 :: x51 :: x52 :: x53 :: x54 :: x55 :: x56 :: x57 :: x58 :: x59 :: x60 :: x61 :: x62 :: x63 :: x64 :: x65 :: x66 :: x67 :: x68 :: x69 :: x70 :: x71 :: x72 :: x73 :: x74 :: x75 :: x76 :: x77 :: x78 :: x79 :: x80 :: x81 :: x82 :: x83 :: x84 :: x85 :: x86 :: x87 :: x88 :: x89 :: x90 :: x91 :: x92 :: x93 :: x94 :: x95 :: x96 :: x97 :: x98 :: x99 :: x100 :: x101 :: x102 :: x103 :: x104 :: x105 :: x106 :: x107 :: x108 :: x109 :: x110 :: x111 :: x112 :: x113 :: x114 :: x115 :: x116 :: x117 :: x118 :: x119 :: x120 :: x121 :: x122 :: x123 :: x124 :: x125 :: x126 :: x127 :: x128 :: x129 :: x130 :: x131 :: x132 :: x133 :: x134 :: x135 :: x136 :: x137 :: x138 :: x139 :: x140 :: x141 :: x142 :: x143 :: x144 :: x145 :: x146 :: x147 :: x148 :: x149 :: x150 :: x151 :: x152 :: x153 :: x154 :: x155 :: x156 :: x157 :: x158 :: x159 :: x160 :: x161 :: x162 :: x163 :: x164 :: x165 :: x166 :: x167 :: x168 :: x169 :: x170 :: x171 :: x172 :: x173 :: x174 :: x175 :: x176 :: x177 :: x178 :: x179 :: x180 :: x181 :: x182 :: x183 :: x184 :: x185 :: x186 :: x187 :: x188 :: x189 :: x190 :: x191 :: x192 :: x193 :: x194 :: x195 :: x196 :: x197 :: x198 :: x199 :: x200 :: x201 :: x202 :: x203 :: x204 :: x205 :: x206 :: x207 :: x208 :: x209 :: UDW 210 :: UDW 211 :: UDW 212 :: UDW 213 :: UDW 214 :: UDW 215 :: UDW 216 :: UDW 217 :: UDW 218 :: UDW 219 :: UDW 220 :: UDW 221 :: UDW 222 :: UDW 223 :: UDW 224 :: UDW 225 :: UDW 226 :: UDW 227 :: UDW 228 :: UDW 229 :: x230 :: x231 :: x232 :: x233 :: x234 :: x235 :: x236 :: x237 :: x238 :: x239 :: x240 :: x241 :: x242 :: x243 :: x244 :: x245 :: x246 :: x247 :: x248 :: x249 :: x250 :: x251 :: x252 :: x253 :: x254 :: x255 :: x256 :: x257 :: x258 :: x259 :: x260 :: x261 :: x262 :: x263 :: x264 :: x265 :: x266 :: x267 :: x268 :: x269 :: x270 :: x271 :: x272 :: x273 :: x274 :: x275 :: x276 :: x277 :: x278 :: x279 :: x280 :: x281 :: x282 :: x283 :: x284 :: x285 :: []), []⟩) → Q0 (.exit 8) a' w'') :
    Code.wp Try.prog ((Try.f34.body.bind (findBlock 8)).getD .skip) Q0 ⟨List.toArray (.pointer (some ⟨mb, 0, none⟩) :: x1 :: x2 :: .pointer (some ⟨sb, 0, none⟩) :: x4 :: x5 :: x6 :: x7 :: x8 :: x9 :: x10 :: x11 :: .int .i64 (q.t + off) :: x13 :: .int .i64 (cell) :: .int .i64 (dw) :: (.bool true) :: .int .i64 (0) :: x18 :: x19 :: x20 :: x21 :: x22 :: x23 :: x24 :: x25 :: x26 :: x27 :: x28 :: x29 :: x30 :: x31 :: x32 :: x33 :: x34 :: x35 :: x36 :: x37 :: x38 :: x39 :: x40 :: x41 :: x42 :: x43 :: x44 :: x45 :: x46 :: x47 :: x48 :: x49 :: x50 :: x51 :: x52 :: x53 :: x54 :: x55 :: x56 :: x57 :: x58 :: x59 :: x60 :: x61 :: x62 :: x63 :: x64 :: x65 :: x66 :: x67 :: x68 :: x69 :: x70 :: x71 :: x72 :: x73 :: x74 :: x75 :: x76 :: x77 :: x78 :: x79 :: x80 :: x81 :: x82 :: x83 :: x84 :: x85 :: x86 :: x87 :: x88 :: x89 :: x90 :: x91 :: x92 :: x93 :: x94 :: x95 :: x96 :: x97 :: x98 :: x99 :: x100 :: x101 :: x102 :: x103 :: x104 :: x105 :: x106 :: x107 :: x108 :: x109 :: x110 :: x111 :: x112 :: x113 :: x114 :: x115 :: x116 :: x117 :: x118 :: x119 :: x120 :: x121 :: x122 :: x123 :: x124 :: x125 :: x126 :: x127 :: x128 :: x129 :: x130 :: x131 :: x132 :: x133 :: x134 :: x135 :: x136 :: x137 :: x138 :: x139 :: x140 :: x141 :: x142 :: x143 :: x144 :: x145 :: x146 :: x147 :: x148 :: x149 :: x150 :: x151 :: x152 :: x153 :: x154 :: x155 :: x156 :: x157 :: x158 :: x159 :: x160 :: x161 :: x162 :: x163 :: x164 :: x165 :: x166 :: x167 :: x168 :: x169 :: x170 :: x171 :: x172 :: x173 :: x174 :: x175 :: x176 :: x177 :: x178 :: x179 :: x180 :: x181 :: x182 :: x183 :: x184 :: x185 :: x186 :: x187 :: x188 :: x189 :: x190 :: x191 :: x192 :: x193 :: x194 :: x195 :: x196 :: x197 :: x198 :: x199 :: x200 :: x201 :: x202 :: x203 :: x204 :: x205 :: x206 :: x207 :: x208 :: x209 :: x210 :: x211 :: x212 :: x213 :: x214 :: x215 :: x216 :: x217 :: x218 :: x219 :: x220 :: x221 :: x222 :: x223 :: x224 :: x225 :: x226 :: x227 :: x228 :: x229 :: x230 :: x231 :: x232 :: x233 :: x234 :: x235 :: x236 :: x237 :: x238 :: x239 :: x240 :: x241 :: x242 :: x243 :: x244 :: x245 :: x246 :: x247 :: x248 :: x249 :: x250 :: x251 :: x252 :: x253 :: x254 :: x255 :: x256 :: x257 :: x258 :: x259 :: x260 :: x261 :: x262 :: x263 :: x264 :: x265 :: x266 :: x267 :: x268 :: x269 :: x270 :: x271 :: x272 :: x273 :: x274 :: x275 :: x276 :: x277 :: x278 :: x279 :: x280 :: x281 :: x282 :: x283 :: x284 :: x285 :: []), []⟩ w7 := by
  conv => arg 2; whnf
  have HI := hid HI0
  have HS7 := hid HS7
  have hqt := HI0.tk
  obtain ⟨res, hres⟩ : ∃ y, T.stays q.r cell (q.t + off) 0 dw = y := ⟨_, rfl⟩
  rw [hres] at hexit
  have HR := hid hres
  clear HI0 hres
  go_loopw [16, 17] (fun y v wr => ∃ (b : Bool) (j : Nat), y = .bool b ∧ v = .int .i64 (j) ∧ j ≤ dw ∧ (b && T.stays q.r cell (q.t + off) j (dw - j)) = res ∧ Below w7.heap.size w7 wr) (fun _ v _ => dw - (intOf v).toNat)
  case atStart => exact ⟨true, 0, rfl, rfl, Nat.zero_le _, by rw [← HR.out]; simp, Below.rf _⟩
  case round =>
    obtain ⟨b, j, rfl, rfl, hj, heq, hB⟩ := hrel
    have HB := hid hB
    have HS := hid (HS7.out.below hB)
    clear hB
    by_cases hjn : j < dw
    · have dj : decide ((j : Int) < (dw : Int)) = true := by simp; omega
      have djn : decide (j < dw) = true := by simp; omega
      obtain ⟨i, hi⟩ : ∃ i, dw - j = i + 1 := ⟨dw - j - 1, by omega⟩
      have hi2 : dw - (j + 1) = i := by omega
      rw [hi, TS.stays] at heq
      have hMB := HI.out.m.below HS.out.bl
      have m0 := hMB.c0
      have m1 := hMB.c1
      have hml := hMB.lt
      have s0 : (wr).cell? ⟨sb, 0, none⟩ = some (.int .i64 (q.r)) := HS.out.s.is 0 (by omega)
      have hsl := HS.out.s.lt
      have hTB := HI.out.t.below HS.out.bl
      obtain ⟨fv, hfv⟩ : ∃ y, T.freeM q.r cell cell (q.t + off + j) = y := ⟨_, rfl⟩
      rw [hfv] at heq
      have HEQ : Hid (((b && fv) && T.stays q.r cell (q.t + off) (j + 1) (dw - (j + 1))) = res) := by unfold Hid; rw [hi2, ← heq, Bool.and_assoc]
      have FM : Hid (∀ w' : World, Below wr.heap.size wr w' → Calls Try.prog 63 #[.pointer (some ⟨M.t, 0, none⟩), .int .i64 (q.r), .int .i64 (cell), .int .i64 (cell), .int .i64 (q.t + off + j)] w' fun e w'' => e = .returned (.bool fv) ∧ ∃ z, w'' = w'.ext z) := fun w' h => by
        have := freeM_any M T lab q.r cell cell (q.t + off + j) w' (hTB.below h) HI.out.r (I64.nat (by omega)) (I64.nat (by omega)) (by unfold I64; omega)
        rw [hfv] at this
        exact this
      clear heq hi hi2 hfv hTB hMB
      cases b with
      | false =>
        rw [Bool.false_and] at HEQ
        go_wp2
        first | with_reducible refine wp_region_ext2 (by kernel_rfl) (by kernel_rfl) ?_ | refine wp_region_ext (by kernel_rfl) (by kernel_rfl) ?_
        repeat (go_big_quiet_step (fail))
        refine wpQuiet_nil ?_
        rintro _ ⟨z, rfl⟩
        go_wp2
        go_roundw
        case rel => exact ⟨false, j + 1, rfl, by go_num, by omega, HEQ.out, HB.out.trans (Below.mono (by (repeat (first | with_reducible exact Below.rf _ | with_reducible exact World.below_ext _ _ | with_reducible refine Below.ex ?_ _ | with_reducible refine Below.al ?_ _ | with_reducible refine Below.setCell ?_ (by simp) _ | with_reducible refine Below.drew ?_))) HB.out.size)⟩
        case measure => (simp [intOf] <;> omega)
      | true =>
        rw [Bool.true_and] at HEQ
        go_wp2
        first | with_reducible refine wp_region_ext2 (by kernel_rfl) (by kernel_rfl) ?_ | refine wp_region_ext (by kernel_rfl) (by kernel_rfl) ?_
        repeat (go_big_quiet_step ((go_at_call 63; exact Calls.ext_of (FM.out _ (by (repeat (first | with_reducible exact Below.rf _ | with_reducible exact World.below_ext _ _ | with_reducible refine Below.ex ?_ _ | with_reducible refine Below.al ?_ _ | with_reducible refine Below.setCell ?_ (by simp) _ | with_reducible refine Below.drew ?_)))))))
        refine wpQuiet_nil ?_
        rintro _ ⟨z, rfl⟩
        go_wp2
        go_roundw
        case rel => exact ⟨fv, j + 1, rfl, by go_num, by omega, HEQ.out, HB.out.trans (Below.mono (by (repeat (first | with_reducible exact Below.rf _ | with_reducible exact World.below_ext _ _ | with_reducible refine Below.ex ?_ _ | with_reducible refine Below.al ?_ _ | with_reducible refine Below.setCell ?_ (by simp) _ | with_reducible refine Below.drew ?_))) HB.out.size)⟩
        case measure => (simp [intOf] <;> omega)
    · have dj : decide ((j : Int) < (dw : Int)) = false := by simp; omega
      have djn : decide (j < dw) = false := by simp; omega
      rw [show dw - j = 0 by omega, TS.stays, Bool.and_true] at heq
      subst heq
      go_wp2
      exact ⟨HB.out, pickU rfl⟩
end Go.Proofs.Qxb6500716a
