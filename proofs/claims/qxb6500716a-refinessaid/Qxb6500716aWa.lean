/-
  Valid: what it reads, its closure, and its first loop, cut out.
-/
import Derived.Test.Qxb6500716aVf
import Derived.Test.Qxb6500716aMb
import Derived.Test.Qxb6500716aLg
namespace Go.Proofs.Qxb6500716a
open Go.RowKit Go.Maps
set_option linter.unusedSimpArgs false
set_option linter.unusedVariables false
set_option maxRecDepth 20000
set_option maxHeartbeats 4000000
/-- What a loop of Valid leaves. -/
def lp16 (n : Nat) (w7 : World) (b : Bool) (Fr Gr : Act → Prop) (e : Exit) (a' : Act) (w'' : World) : Prop :=
  (e = .exit n ∧ Below w7.heap.size w7 w'' ∧ b = true ∧ Fr a') ∨ (e = .ret ∧ Below w7.heap.size w7 w'' ∧ b = false ∧ Gr a')
/-- All that Valid reads. -/
structure E16 (w : World) (lab : Nat → Nat) (mx mb sb b1 fb : Nat) (M : TM) (F : FS) (T : TS) (q : Rq) (gv : Value) (c x : Int) (pv dv : Value) (path done : List Int) : Prop where
  f : FAt w lab fb F
  t : TAt w lab M T
  m : MoAt w mb fb M.t
  mc : w.cell? ⟨mx, 0, none⟩ = some (.pointer (some ⟨mb, 0, none⟩))
  ml : mx < w.heap.size
  bq : Bq w sb q gv
  b : Bx w b1 c q.t x pv dv
  g : GAt w lab gv q.gl
  p : Ints w lab pv path
  d : Ints w lab dv done
  tk : -4000000000 ≤ q.t ∧ q.t ≤ 4000000000
  r : I64 q.r
theorem E16.below {w w' : World} {lab : Nat → Nat} {mx mb sb b1 fb : Nat} {M : TM} {F : FS} {T : TS} {q : Rq} {gv : Value} {c x : Int} {pv dv : Value} {path done : List Int} (h : E16 w lab mx mb sb b1 fb M F T q gv c x pv dv path done) (hb : Below w.heap.size w w') : E16 w' lab mx mb sb b1 fb M F T q gv c x pv dv path done :=
  ⟨h.f.below hb, h.t.below hb, h.m.below hb, (World.cell?_of_block (hb.block mx h.ml)).trans h.mc, Nat.lt_of_lt_of_le h.ml hb.size, h.bq.below hb, h.b.below hb, h.g.below hb, h.p.keptL (A := fun _ => False) (KeptL.of_below hb) (fun _ h => h.elim), h.d.keptL (A := fun _ => False) (KeptL.of_below hb) (fun _ h => h.elim), h.tk, h.r⟩
set_option maxHeartbeats 4000000 in
theorem where_lt (w : World) (lab : Nat → Nat) (mx mb sb b1 fb : Nat) (M : TM) (F : FS) (T : TS) (q : Rq) (gv : Value) (c x : Int) (pv dv : Value) (path done : List Int) (h : E16 w lab mx mb sb b1 fb M F T q gv c x pv dv path done) :
    Calls Try.prog 57 #[.int .i64 (q.t - 1), .pointer (some ⟨sb, 0, none⟩), .pointer (some ⟨mx, 0, none⟩), .pointer (some ⟨b1, 0, none⟩)] w fun e w' => e = .returned (.int .i64 (T.at q.r (q.t - 1))) ∧ ∃ z, w' = w.ext z := by
  have s0 := h.bq.c0
  have s2 := h.bq.c2
  have hsl := h.bq.lt
  have m0 := h.mc
  have hml := h.ml
  have m1 := h.m.c1
  have hmb := h.m.lt
  have ht := h.tk
  have AT : Hid (∀ w' : World, Below w.heap.size w w' → Calls Try.prog 24 #[.pointer (some ⟨M.t, 0, none⟩), .int .i64 (q.r), .int .i64 (q.t - 1)] w' fun e w'' => e = .returned (.int .i64 (T.at q.r (q.t - 1))) ∧ ∃ z, w'' = w'.ext z) := fun w' hb => at_any M T lab q.r (q.t - 1) w' (h.t.below hb) h.r (by unfold I64; omega)
  generalize T.at q.r (q.t - 1) = v at *
  have d1 : decide (q.t - 1 < q.t) = true := by simp; omega
  clear h
  go_enter Try.func57, Try.ntmps57
  go_wp2
  first | with_reducible refine wp_region_ext2 (by kernel_rfl) (by kernel_rfl) ?_ | refine wp_region_ext (by kernel_rfl) (by kernel_rfl) ?_
  repeat (go_big_quiet_step ((go_at_call 24; with_reducible exact Calls.ext_of (AT.out _ (by (repeat (first | with_reducible exact Below.rf _ | with_reducible exact World.below_ext _ _ | with_reducible refine Below.ex ?_ _ | with_reducible refine Below.al ?_ _ | with_reducible refine Below.setCell ?_ (by simp) _ | with_reducible refine Below.drew ?_)))))))
  refine wpQuiet_nil ?_
  rintro _ ⟨z, rfl⟩
  go_wp2
  go_ret
  exact ⟨rfl, _, rfl⟩
set_option maxHeartbeats 4000000 in
theorem where_ge (w : World) (lab : Nat → Nat) (mx mb sb b1 fb : Nat) (M : TM) (F : FS) (T : TS) (q : Rq) (gv : Value) (c x : Int) (pv dv : Value) (path done : List Int) (h : E16 w lab mx mb sb b1 fb M F T q gv c x pv dv path done) (i : Nat) (hi : i < path.length) (hp1 : path.length ≤ 1000) :
    Calls Try.prog 57 #[.int .i64 (q.t + (i : Int)), .pointer (some ⟨sb, 0, none⟩), .pointer (some ⟨mx, 0, none⟩), .pointer (some ⟨b1, 0, none⟩)] w fun e w' => e = .returned (.int .i64 (path.getD i 0)) ∧ w' = w := by
  have s2 := h.bq.c2
  have hsl := h.bq.lt
  have q2 := h.b.c2
  have hbl := h.b.lt
  have ht := h.tk
  obtain ⟨po, pc, hpv, -⟩ := h.p.ex
  obtain ⟨pn, hpn⟩ : ∃ y, path.length = y := ⟨_, rfl⟩
  have hp := h.p
  rw [hpv] at hp q2
  obtain ⟨bk, ba, hpo, hbk, e0⟩ := ints_at hp (Below.rf w) hi
  subst hpo
  rw [hpn] at hi hp1 q2
  generalize path.getD i 0 = v at *
  have d1 : decide (q.t + (i : Int) < q.t) = false := by simp; omega
  have d2 : decide (i < pn) = true := by simp [hi]
  have f1 : q.t + (i : Int) - q.t = (i : Int) := by omega
  have f2 : IntKind.i64.wrap (q.t + (i : Int) - q.t) = (i : Int) := by rw [f1]; simp [IntKind.wrap, IntKind.bits, IntKind.signed]; omega
  clear h hp hpv hpn
  go_enter Try.func57, Try.ntmps57
  go_wp2
  go_ret
  exact ⟨rfl, rfl⟩
set_option maxRecDepth 1000000 in
set_option maxHeartbeats 400000000 in
theorem jm_loop (w7 : World) (lab : Nat → Nat) (mx mb sb b1 fb pm pc : Nat) (po : Option Addr) (M : TM) (F : FS) (T : TS) (q : Rq) (gv : Value) (c x : Int) (dv : Value) (path done : List Int)
    (HE7 : E16 w7 lab mx mb sb b1 fb M F T q gv c x (.slice po (pm + 1) pc) dv path done) (hpn : path.length = pm + 1) (hp1 : pm < 1000) (jj : Bool) (hjj : jmp F (path.getD 0 0) (path.drop 1) = jj)
    (x0 x1 x2 x6 x8 x10 x11 x12 x13 x14 x15 x16 x17 x18 x19 x20 x21 x22 x23 x24 x25 x26 x27 x28 x29 x30 x31 x32 x33 x34 x35 x36 x37 x38 x39 x40 x41 x42 x43 x44 x45 x46 x47 x48 x49 x50 x51 x52 x53 x54 x55 x56 x57 x58 x59 x60 x61 x62 x63 x64 x65 x66 x67 x68 x69 x70 x71 x72 x73 x74 x75 x76 x77 x78 x79 x80 x81 x82 x83 x84 x85 x86 x87 x88 x89 x90 x91 x92 x93 x94 x95 x96 x97 x98 x99 x100 x101 x102 x103 x104 x105 x106 x107 x108 x109 x110 x111 x112 x113 x114 x115 x116 x117 x118 x119 x120 x121 x122 x123 x124 x125 x126 x127 x128 x129 x130 x131 x132 x133 x134 x135 x136 x137 x138 x139 x140 x141 x142 x143 x144 x145 x146 x147 x148 x149 x150 x151 x152 x153 x154 x155 x156 x157 x158 x159 x160 x161 x162 x163 x164 x165 x166 x167 x168 x169 x170 x171 x172 x173 x174 x175 x176 x177 x178 x179 x180 x181 x182 x183 x184 x185 x186 x187 x188 x189 x190 x191 x192 x193 x194 x195 x196 x197 x198 x199 x200 x201 x202 x203 x204 x205 x206 x207 x208 x209 x210 x211 x212 x213 x214 x215 x216 x217 x218 x219 x220 x221 x222 x223 x224 x225 x226 x227 x228 x229 x230 x231 x232 x233 x234 x235 x236 x237 x238 x239 x240 x241 x242 x243 x244 x245 x246 x247 x248 x249 x250 x251 x252 x253 x254 x255 x256 x257 x258 x259 x260 x261 x262 x263 x264 x265 x266 x267 : Value) :
    Code.wp Try.prog ((Try.f16.body.bind (findBlock 0)).getD .skip) (lp16 0 w7 jj (fun a' => ∃ UJM : Nat → Value, a' = ⟨List.toArray (x0 :: x1 :: x2 :: .pointer (some ⟨mx, 0, none⟩) :: .pointer (some ⟨sb, 0, none⟩) :: .pointer (some ⟨b1, 0, none⟩) :: UJM 6 :: .int .i64 ((pm : Int) + 1) :: x8 :: UJM 9 :: x10 :: x11 :: x12 :: x13 :: x14 :: x15 :: x16 :: x17 :: x18 :: x19 :: x20 :: x21 :: x22 :: x23 :: x24 :: x25 :: x26 :: x27 :: x28 :: x29 :: x30 :: x31 :: x32 :: x33 :: x34 :: x35 :: x36 :: x37 :: x38 :: x39 :: x40 :: x41 :: x42 :: x43 :: x44 :: x45 :: x46 :: x47 :: x48 :: x49 :: x50 :: x51 :: x52 :: x53 :: x54 :: x55 :: x56 :: x57 :: x58 :: x59 :: x60 :: UJM 61 :: UJM 62 :: UJM 63 :: UJM 64 :: UJM 65 :: UJM 66 :: UJM 67 :: UJM 68 :: UJM 69 :: UJM 70 :: UJM 71 :: UJM 72 :: UJM 73 :: UJM 74 :: UJM 75 :: UJM 76 :: UJM 77 :: UJM 78 :: UJM 79 :: UJM 80 :: UJM 81 :: UJM 82 :: UJM 83 :: UJM 84 :: UJM 85 :: UJM 86 :: UJM 87 :: UJM 88 :: UJM 89 :: UJM 90 :: UJM 91 :: UJM 92 :: UJM 93 :: UJM 94 :: UJM 95 :: UJM 96 :: x97 :: x98 :: x99 :: x100 :: x101 :: x102 :: x103 :: x104 :: x105 :: x106 :: x107 :: x108 :: x109 :: x110 :: x111 :: x112 :: x113 :: x114 :: x115 :: x116 :: x117 :: x118 :: x119 :: x120 :: x121 :: x122 :: x123 :: x124 :: x125 :: x126 :: x127 :: x128 :: x129 :: x130 :: x131 :: x132 :: x133 :: x134 :: x135 :: x136 :: x137 :: x138 :: x139 :: x140 :: x141 :: x142 :: x143 :: x144 :: x145 :: x146 :: x147 :: x148 :: x149 :: x150 :: x151 :: x152 :: x153 :: x154 :: x155 :: x156 :: x157 :: x158 :: x159 :: x160 :: x161 :: x162 :: x163 :: x164 :: x165 :: x166 :: x167 :: x168 :: x169 :: x170 :: x171 :: x172 :: x173 :: x174 :: x175 :: x176 :: x177 :: x178 :: x179 :: x180 :: x181 :: x182 :: x183 :: x184 :: x185 :: x186 :: x187 :: x188 :: x189 :: x190 :: x191 :: x192 :: x193 :: x194 :: x195 :: x196 :: x197 :: x198 :: x199 :: x200 :: x201 :: x202 :: x203 :: x204 :: x205 :: x206 :: x207 :: x208 :: x209 :: x210 :: x211 :: x212 :: x213 :: x214 :: x215 :: x216 :: x217 :: x218 :: x219 :: x220 :: x221 :: x222 :: x223 :: x224 :: x225 :: x226 :: x227 :: x228 :: x229 :: x230 :: x231 :: x232 :: x233 :: x234 :: x235 :: x236 :: x237 :: x238 :: x239 :: x240 :: x241 :: x242 :: x243 :: x244 :: x245 :: x246 :: x247 :: x248 :: x249 :: x250 :: x251 :: x252 :: x253 :: x254 :: x255 :: x256 :: x257 :: x258 :: x259 :: x260 :: x261 :: x262 :: x263 :: x264 :: x265 :: x266 :: x267 :: []), []⟩) (fun a' => ∃ UR : Nat → Value, a' = ⟨List.toArray (UR 0 :: UR 1 :: UR 2 :: UR 3 :: UR 4 :: UR 5 :: (.bool false) :: UR 7 :: UR 8 :: UR 9 :: UR 10 :: UR 11 :: UR 12 :: UR 13 :: UR 14 :: UR 15 :: UR 16 :: UR 17 :: UR 18 :: UR 19 :: UR 20 :: UR 21 :: UR 22 :: UR 23 :: UR 24 :: UR 25 :: UR 26 :: UR 27 :: UR 28 :: UR 29 :: UR 30 :: UR 31 :: UR 32 :: UR 33 :: UR 34 :: UR 35 :: UR 36 :: UR 37 :: UR 38 :: UR 39 :: UR 40 :: UR 41 :: UR 42 :: UR 43 :: UR 44 :: UR 45 :: UR 46 :: UR 47 :: UR 48 :: UR 49 :: UR 50 :: UR 51 :: UR 52 :: UR 53 :: UR 54 :: UR 55 :: UR 56 :: UR 57 :: UR 58 :: UR 59 :: UR 60 :: UR 61 :: UR 62 :: UR 63 :: UR 64 :: UR 65 :: UR 66 :: UR 67 :: UR 68 :: UR 69 :: UR 70 :: UR 71 :: UR 72 :: UR 73 :: UR 74 :: UR 75 :: UR 76 :: UR 77 :: UR 78 :: UR 79 :: UR 80 :: UR 81 :: UR 82 :: UR 83 :: UR 84 :: UR 85 :: UR 86 :: UR 87 :: UR 88 :: UR 89 :: UR 90 :: UR 91 :: UR 92 :: UR 93 :: UR 94 :: UR 95 :: UR 96 :: UR 97 :: UR 98 :: UR 99 :: UR 100 :: UR 101 :: UR 102 :: UR 103 :: UR 104 :: UR 105 :: UR 106 :: UR 107 :: UR 108 :: UR 109 :: UR 110 :: UR 111 :: UR 112 :: UR 113 :: UR 114 :: UR 115 :: UR 116 :: UR 117 :: UR 118 :: UR 119 :: UR 120 :: UR 121 :: UR 122 :: UR 123 :: UR 124 :: UR 125 :: UR 126 :: UR 127 :: UR 128 :: UR 129 :: UR 130 :: UR 131 :: UR 132 :: UR 133 :: UR 134 :: UR 135 :: UR 136 :: UR 137 :: UR 138 :: UR 139 :: UR 140 :: UR 141 :: UR 142 :: UR 143 :: UR 144 :: UR 145 :: UR 146 :: UR 147 :: UR 148 :: UR 149 :: UR 150 :: UR 151 :: UR 152 :: UR 153 :: UR 154 :: UR 155 :: UR 156 :: UR 157 :: UR 158 :: UR 159 :: UR 160 :: UR 161 :: UR 162 :: UR 163 :: UR 164 :: UR 165 :: UR 166 :: UR 167 :: UR 168 :: UR 169 :: UR 170 :: UR 171 :: UR 172 :: UR 173 :: UR 174 :: UR 175 :: UR 176 :: UR 177 :: UR 178 :: UR 179 :: UR 180 :: UR 181 :: UR 182 :: UR 183 :: UR 184 :: UR 185 :: UR 186 :: UR 187 :: UR 188 :: UR 189 :: UR 190 :: UR 191 :: UR 192 :: UR 193 :: UR 194 :: UR 195 :: UR 196 :: UR 197 :: UR 198 :: UR 199 :: UR 200 :: UR 201 :: UR 202 :: UR 203 :: UR 204 :: UR 205 :: UR 206 :: UR 207 :: UR 208 :: UR 209 :: UR 210 :: UR 211 :: UR 212 :: UR 213 :: UR 214 :: UR 215 :: UR 216 :: UR 217 :: UR 218 :: UR 219 :: UR 220 :: UR 221 :: UR 222 :: UR 223 :: UR 224 :: UR 225 :: UR 226 :: UR 227 :: UR 228 :: UR 229 :: UR 230 :: UR 231 :: UR 232 :: UR 233 :: UR 234 :: UR 235 :: UR 236 :: UR 237 :: UR 238 :: UR 239 :: UR 240 :: UR 241 :: UR 242 :: UR 243 :: UR 244 :: UR 245 :: UR 246 :: UR 247 :: UR 248 :: UR 249 :: UR 250 :: UR 251 :: UR 252 :: UR 253 :: UR 254 :: UR 255 :: UR 256 :: UR 257 :: UR 258 :: UR 259 :: UR 260 :: UR 261 :: UR 262 :: UR 263 :: UR 264 :: UR 265 :: UR 266 :: UR 267 :: []), []⟩)) ⟨List.toArray (x0 :: x1 :: x2 :: .pointer (some ⟨mx, 0, none⟩) :: .pointer (some ⟨sb, 0, none⟩) :: .pointer (some ⟨b1, 0, none⟩) :: x6 :: .int .i64 ((pm : Int) + 1) :: x8 :: .int .i64 (1) :: x10 :: x11 :: x12 :: x13 :: x14 :: x15 :: x16 :: x17 :: x18 :: x19 :: x20 :: x21 :: x22 :: x23 :: x24 :: x25 :: x26 :: x27 :: x28 :: x29 :: x30 :: x31 :: x32 :: x33 :: x34 :: x35 :: x36 :: x37 :: x38 :: x39 :: x40 :: x41 :: x42 :: x43 :: x44 :: x45 :: x46 :: x47 :: x48 :: x49 :: x50 :: x51 :: x52 :: x53 :: x54 :: x55 :: x56 :: x57 :: x58 :: x59 :: x60 :: x61 :: x62 :: x63 :: x64 :: x65 :: x66 :: x67 :: x68 :: x69 :: x70 :: x71 :: x72 :: x73 :: x74 :: x75 :: x76 :: x77 :: x78 :: x79 :: x80 :: x81 :: x82 :: x83 :: x84 :: x85 :: x86 :: x87 :: x88 :: x89 :: x90 :: x91 :: x92 :: x93 :: x94 :: x95 :: x96 :: x97 :: x98 :: x99 :: x100 :: x101 :: x102 :: x103 :: x104 :: x105 :: x106 :: x107 :: x108 :: x109 :: x110 :: x111 :: x112 :: x113 :: x114 :: x115 :: x116 :: x117 :: x118 :: x119 :: x120 :: x121 :: x122 :: x123 :: x124 :: x125 :: x126 :: x127 :: x128 :: x129 :: x130 :: x131 :: x132 :: x133 :: x134 :: x135 :: x136 :: x137 :: x138 :: x139 :: x140 :: x141 :: x142 :: x143 :: x144 :: x145 :: x146 :: x147 :: x148 :: x149 :: x150 :: x151 :: x152 :: x153 :: x154 :: x155 :: x156 :: x157 :: x158 :: x159 :: x160 :: x161 :: x162 :: x163 :: x164 :: x165 :: x166 :: x167 :: x168 :: x169 :: x170 :: x171 :: x172 :: x173 :: x174 :: x175 :: x176 :: x177 :: x178 :: x179 :: x180 :: x181 :: x182 :: x183 :: x184 :: x185 :: x186 :: x187 :: x188 :: x189 :: x190 :: x191 :: x192 :: x193 :: x194 :: x195 :: x196 :: x197 :: x198 :: x199 :: x200 :: x201 :: x202 :: x203 :: x204 :: x205 :: x206 :: x207 :: x208 :: x209 :: x210 :: x211 :: x212 :: x213 :: x214 :: x215 :: x216 :: x217 :: x218 :: x219 :: x220 :: x221 :: x222 :: x223 :: x224 :: x225 :: x226 :: x227 :: x228 :: x229 :: x230 :: x231 :: x232 :: x233 :: x234 :: x235 :: x236 :: x237 :: x238 :: x239 :: x240 :: x241 :: x242 :: x243 :: x244 :: x245 :: x246 :: x247 :: x248 :: x249 :: x250 :: x251 :: x252 :: x253 :: x254 :: x255 :: x256 :: x257 :: x258 :: x259 :: x260 :: x261 :: x262 :: x263 :: x264 :: x265 :: x266 :: x267 :: []), []⟩ w7 := by
  conv => arg 2; whnf
  have HE7 := hid HE7
  have HPN := hid hpn
  have HJJ := hid hjj
  clear hpn hjj
  go_loopw [9] (fun v wr => ∃ k : Nat, v = .int .i64 ((k : Int) + 1) ∧ k ≤ pm ∧ jmp F (path.getD k 0) (path.drop (k + 1)) = jj ∧ Below w7.heap.size w7 wr) (fun v _ => pm + 1 - (intOf v).toNat)
  case atStart => exact ⟨0, rfl, Nat.zero_le _, HJJ.out, Below.rf _⟩
  case round =>
    obtain ⟨k, rfl, hk, heq, hB⟩ := hrel
    have HB := hid hB
    have HE := hid (HE7.out.below hB)
    have q2 := HE.out.b.c2
    have hbl := HE.out.b.lt
    have m0 := HE.out.mc
    have hml := HE.out.ml
    have n0 := HE.out.m.c0
    have hnl := HE.out.m.lt
    by_cases hkn : k < pm
    · have dk : decide ((k : Int) + 1 < (pm : Int) + 1) = true := by simp; omega
      have dkn : decide (k < pm) = true := by simp; omega
      have dk2 : decide (k + 1 < pm + 1) = true := by simp; omega
      have dk3 : decide (k < pm + 1) = true := by simp; omega
      have hkl : k < path.length := by rw [HPN.out]; omega
      have hkl1 : k + 1 < path.length := by rw [HPN.out]; omega
      obtain ⟨bk, ba, hpo, hbk1, y0⟩ := ints_at HE.out.p (Below.rf wr) hkl
      subst hpo
      obtain ⟨bk', ba', hpo', -, y1⟩ := ints_at HE.out.p (Below.rf wr) hkl1
      simp only [Option.some.injEq, Addr.mk.injEq, and_true] at hpo'
      obtain ⟨rfl, rfl⟩ := hpo'
      rw [List.drop_eq_getElem_cons hkl1, jmp, show path[k + 1] = path.getD (k + 1) 0 by rw [List.getD_eq_getElem?_getD, List.getElem?_eq_getElem hkl1]; rfl] at heq
      generalize hya : path.getD k 0 = y at *
      generalize hyb0 : path.getD (k + 1) 0 = yb at *
      obtain ⟨v, hv⟩ : ∃ v, F.adj y yb = v := ⟨_, rfl⟩
      rw [hv] at heq
      have FC : Hid (∀ w' : World, Below wr.heap.size wr w' → Calls Try.prog 21 #[.pointer (some ⟨fb, 0, none⟩), .int .i64 (y), .int .i64 (yb)] w' fun e w'' => e = .returned (.bool v) ∧ w'' = w') := fun w' h => by
        have := adjacent_any fb F lab y yb w' (HE.out.f.below h)
        rw [hv] at this
        exact this
      have HEQ := hid heq
      have HY := hid hyb0
      clear heq hv hkl hkl1 hB hya hyb0
      by_cases hyy : y = yb
      · have d7 : (yb != y) = false := by simp [hyy]
        have HE2 : Hid (jmp F (path.getD (k + 1) 0) (path.drop (k + 1 + 1)) = jj) := by
          unfold Hid
          have := HEQ.out
          rw [if_neg (fun h => h.1 hyy)] at this
          rw [HY.out]
          exact this
        clear HEQ hyy
        go_wp2
        first | with_reducible refine wp_region_ext2 (by kernel_rfl) (by kernel_rfl) ?_ | refine wp_region_ext (by kernel_rfl) (by kernel_rfl) ?_
        repeat (go_big_quiet_step (fail))
        refine wpQuiet_nil ?_
        rintro w8 ⟨z, hw2⟩
        have HB4 : Hid (Below w7.heap.size w7 w8) := HB.out.trans (Below.mono (by rw [hw2]; exact World.below_ext _ _) HB.out.size)
        clear hw2
        go_wp2
        go_roundw
        case rel => exact ⟨k + 1, by go_num, by omega, HE2.out, HB4.out⟩
        case measure => (simp [intOf] <;> omega)
      · have d7 : (yb != y) = true := by simp; exact fun h => hyy h.symm
        cases v with
        | true =>
          have HE2 : Hid (jmp F (path.getD (k + 1) 0) (path.drop (k + 1 + 1)) = jj) := by
            unfold Hid
            have := HEQ.out
            rw [if_neg (fun h => by cases h.2)] at this
            rw [HY.out]
            exact this
          clear HEQ hyy
          go_wp2
          first | with_reducible refine wp_region_ext2 (by kernel_rfl) (by kernel_rfl) ?_ | refine wp_region_ext (by kernel_rfl) (by kernel_rfl) ?_
          repeat (go_big_quiet_step ((go_at_call 21; with_reducible exact Calls.ext_of_same (FC.out _ (by (repeat (first | with_reducible exact Below.rf _ | with_reducible exact World.below_ext _ _ | with_reducible refine Below.ex ?_ _ | with_reducible refine Below.al ?_ _ | with_reducible refine Below.setCell ?_ (by simp) _ | with_reducible refine Below.drew ?_)))))))
          refine wpQuiet_nil ?_
          rintro w8 ⟨z, hw2⟩
          have HB4 : Hid (Below w7.heap.size w7 w8) := HB.out.trans (Below.mono (by rw [hw2]; exact World.below_ext _ _) HB.out.size)
          clear hw2
          go_wp2
          go_roundw
          case rel => exact ⟨k + 1, by go_num, by omega, HE2.out, HB4.out⟩
          case measure => (simp [intOf] <;> omega)
        | false =>
          have HE2 : Hid (jj = false) := by
            unfold Hid
            have h1 := HEQ.out
            rw [if_pos ⟨hyy, rfl⟩] at h1
            exact h1.symm
          clear HEQ hyy
          go_wp2
          first | with_reducible refine wp_region_ext2 (by kernel_rfl) (by kernel_rfl) ?_ | refine wp_region_ext (by kernel_rfl) (by kernel_rfl) ?_
          repeat (go_big_quiet_step ((go_at_call 21; with_reducible exact Calls.ext_of_same (FC.out _ (by (repeat (first | with_reducible exact Below.rf _ | with_reducible exact World.below_ext _ _ | with_reducible refine Below.ex ?_ _ | with_reducible refine Below.al ?_ _ | with_reducible refine Below.setCell ?_ (by simp) _ | with_reducible refine Below.drew ?_)))))))
          refine wpQuiet_nil ?_
          rintro w8 ⟨z, hw2⟩
          have HB4 : Hid (Below w7.heap.size w7 w8) := HB.out.trans (Below.mono (by rw [hw2]; exact World.below_ext _ _) HB.out.size)
          clear hw2
          go_wp2
          exact Or.inr ⟨rfl, HB4.out, HE2.out, pickU rfl⟩
    · have dk : decide ((k : Int) + 1 < (pm : Int) + 1) = false := by simp; omega
      have dkn : decide (k < pm) = false := by simp; omega
      have HJT : Hid (jj = true) := by
        unfold Hid
        rw [← heq, List.drop_eq_nil_of_le (by rw [HPN.out]; omega)]
        rfl
      clear heq hB
      go_wp2
      exact Or.inl ⟨rfl, HB.out, HJT.out, pickU rfl⟩
end Go.Proofs.Qxb6500716a
