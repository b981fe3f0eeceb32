/-
  Valid: its loop over the goals, cut out.
-/
import Derived.Test.Qxb6500716aWa
namespace Go.Proofs.Qxb6500716a
open Go.RowKit Go.Maps
set_option linter.unusedSimpArgs false
set_option linter.unusedVariables false
set_option maxRecDepth 20000
set_option maxHeartbeats 4000000
set_option maxRecDepth 1000000 in
set_option maxHeartbeats 400000000 in
theorem gl_loop (w7 : World) (lab : Nat → Nat) (mx mb sb b1 fb pm pc gn gc dc : Nat) (po go dq : Option Addr) (M : TM) (F : FS) (T : TS) (q : Rq) (c x : Int) (path done : List Int)
    (HE7 : E16 w7 lab mx mb sb b1 fb M F T q (.slice go gn gc) c x (.slice po (pm + 1) pc) (.slice dq gn dc) path done) (hpn : path.length = pm + 1) (hp1 : pm < 1000) (hgn : q.gl.length = gn) (hdn : done.length = gn) (hgok : F.gok q.gl) (hdb : ∀ d, d ∈ done → -8000000000 ≤ d ∧ d ≤ 8000000000) (dd : Bool) (hdd : dwl path q.t (q.t + pm) q.t q.gl done = dd)
    (x0 x1 x2 x6 x7 x9 x11 x12 x13 x14 x15 x16 x17 x18 x19 x20 x21 x22 x23 x24 x25 x26 x27 x28 x29 x30 x31 x32 x33 x34 x35 x36 x37 x38 x39 x40 x41 x42 x43 x44 x45 x46 x47 x48 x49 x50 x51 x52 x53 x54 x55 x56 x57 x58 x59 x60 x61 x62 x63 x64 x65 x66 x67 x68 x69 x70 x71 x72 x73 x74 x75 x76 x77 x78 x79 x80 x81 x82 x83 x84 x85 x86 x87 x88 x89 x90 x91 x92 x93 x94 x95 x96 x97 x98 x99 x103 x104 x105 x106 x107 x108 x109 x110 x111 x112 x113 x114 x115 x116 x117 x118 x119 x120 x121 x122 x123 x124 x125 x126 x127 x128 x129 x130 x131 x132 x133 x134 x135 x136 x137 x138 x139 x140 x141 x142 x143 x144 x145 x146 x147 x148 x149 x150 x151 x152 x153 x154 x155 x156 x157 x158 x159 x160 x161 x162 x163 x164 x165 x166 x167 x168 x169 x170 x171 x172 x173 x174 x175 x176 x177 x178 x179 x180 x181 x182 x183 x184 x185 x186 x187 x188 x189 x190 x191 x192 x193 x194 x195 x196 x197 x198 x199 x200 x201 x202 x203 x204 x205 x206 x207 x208 x209 x210 x211 x212 x213 x214 x215 x216 x217 x218 x219 x220 x221 x222 x223 x224 x225 x226 x227 x228 x229 x230 x231 x232 x233 x234 x235 x236 x237 x238 x239 x240 x241 x242 x243 x244 x245 x246 x247 x248 x249 x250 x251 x252 x253 x254 x255 x256 x257 x258 x259 x260 x261 x262 x263 x264 x265 x266 x267 : Value) :
    Code.wp Try.prog ((Try.f16.body.bind (findBlock 2)).getD .skip) (lp16 2 w7 dd (fun a' => ∃ UGL : Nat → Value, a' = ⟨List.toArray (x0 :: x1 :: x2 :: .pointer (some ⟨mx, 0, none⟩) :: .pointer (some ⟨sb, 0, none⟩) :: .pointer (some ⟨b1, 0, none⟩) :: UGL 6 :: x7 :: .int .i64 (q.t + pm) :: x9 :: UGL 10 :: UGL 11 :: UGL 12 :: UGL 13 :: x14 :: x15 :: x16 :: x17 :: x18 :: x19 :: x20 :: x21 :: x22 :: x23 :: x24 :: x25 :: x26 :: x27 :: x28 :: x29 :: x30 :: x31 :: x32 :: x33 :: x34 :: x35 :: x36 :: x37 :: x38 :: x39 :: x40 :: x41 :: x42 :: x43 :: x44 :: x45 :: x46 :: x47 :: x48 :: x49 :: x50 :: x51 :: x52 :: x53 :: x54 :: x55 :: x56 :: x57 :: x58 :: x59 :: x60 :: x61 :: x62 :: x63 :: x64 :: x65 :: x66 :: x67 :: x68 :: x69 :: x70 :: x71 :: x72 :: x73 :: x74 :: x75 :: x76 :: x77 :: x78 :: x79 :: x80 :: x81 :: x82 :: x83 :: x84 :: x85 :: x86 :: x87 :: x88 :: x89 :: x90 :: x91 :: x92 :: x93 :: x94 :: x95 :: x96 :: x97 :: x98 :: x99 :: (.slice go gn gc) :: .int .i64 (gn) :: UGL 102 :: UGL 103 :: UGL 104 :: UGL 105 :: UGL 106 :: UGL 107 :: UGL 108 :: UGL 109 :: UGL 110 :: UGL 111 :: UGL 112 :: UGL 113 :: UGL 114 :: UGL 115 :: UGL 116 :: UGL 117 :: UGL 118 :: UGL 119 :: UGL 120 :: UGL 121 :: UGL 122 :: UGL 123 :: UGL 124 :: UGL 125 :: UGL 126 :: UGL 127 :: UGL 128 :: UGL 129 :: UGL 130 :: UGL 131 :: UGL 132 :: UGL 133 :: UGL 134 :: UGL 135 :: UGL 136 :: UGL 137 :: UGL 138 :: UGL 139 :: UGL 140 :: UGL 141 :: UGL 142 :: UGL 143 :: UGL 144 :: UGL 145 :: UGL 146 :: UGL 147 :: UGL 148 :: UGL 149 :: UGL 150 :: x151 :: x152 :: x153 :: x154 :: x155 :: x156 :: x157 :: x158 :: x159 :: x160 :: x161 :: x162 :: x163 :: x164 :: x165 :: x166 :: x167 :: x168 :: x169 :: x170 :: x171 :: x172 :: x173 :: x174 :: x175 :: x176 :: x177 :: x178 :: x179 :: x180 :: x181 :: x182 :: x183 :: x184 :: x185 :: x186 :: x187 :: x188 :: x189 :: x190 :: x191 :: x192 :: x193 :: x194 :: x195 :: x196 :: x197 :: x198 :: x199 :: x200 :: x201 :: x202 :: x203 :: x204 :: x205 :: x206 :: x207 :: x208 :: x209 :: x210 :: x211 :: x212 :: x213 :: x214 :: x215 :: x216 :: x217 :: x218 :: x219 :: x220 :: x221 :: x222 :: x223 :: x224 :: x225 :: x226 :: x227 :: x228 :: x229 :: x230 :: x231 :: x232 :: x233 :: x234 :: x235 :: x236 :: x237 :: x238 :: x239 :: x240 :: x241 :: x242 :: x243 :: x244 :: x245 :: x246 :: x247 :: x248 :: x249 :: x250 :: x251 :: x252 :: x253 :: x254 :: x255 :: x256 :: x257 :: x258 :: x259 :: x260 :: x261 :: x262 :: x263 :: x264 :: x265 :: x266 :: x267 :: []), []⟩) (fun a' => ∃ UR : Nat → Value, a' = ⟨List.toArray (UR 0 :: UR 1 :: UR 2 :: UR 3 :: UR 4 :: UR 5 :: (.bool false) :: UR 7 :: UR 8 :: UR 9 :: UR 10 :: UR 11 :: UR 12 :: UR 13 :: UR 14 :: UR 15 :: UR 16 :: UR 17 :: UR 18 :: UR 19 :: UR 20 :: UR 21 :: UR 22 :: UR 23 :: UR 24 :: UR 25 :: UR 26 :: UR 27 :: UR 28 :: UR 29 :: UR 30 :: UR 31 :: UR 32 :: UR 33 :: UR 34 :: UR 35 :: UR 36 :: UR 37 :: UR 38 :: UR 39 :: UR 40 :: UR 41 :: UR 42 :: UR 43 :: UR 44 :: UR 45 :: UR 46 :: UR 47 :: UR 48 :: UR 49 :: UR 50 :: UR 51 :: UR 52 :: UR 53 :: UR 54 :: UR 55 :: UR 56 :: UR 57 :: UR 58 :: UR 59 :: UR 60 :: UR 61 :: UR 62 :: UR 63 :: UR 64 :: UR 65 :: UR 66 :: UR 67 :: UR 68 :: UR 69 :: UR 70 :: UR 71 :: UR 72 :: UR 73 :: UR 74 :: UR 75 :: UR 76 :: UR 77 :: UR 78 :: UR 79 :: UR 80 :: UR 81 :: UR 82 :: UR 83 :: UR 84 :: UR 85 :: UR 86 :: UR 87 :: UR 88 :: UR 89 :: UR 90 :: UR 91 :: UR 92 :: UR 93 :: UR 94 :: UR 95 :: UR 96 :: UR 97 :: UR 98 :: UR 99 :: UR 100 :: UR 101 :: UR 102 :: UR 103 :: UR 104 :: UR 105 :: UR 106 :: UR 107 :: UR 108 :: UR 109 :: UR 110 :: UR 111 :: UR 112 :: UR 113 :: UR 114 :: UR 115 :: UR 116 :: UR 117 :: UR 118 :: UR 119 :: UR 120 :: UR 121 :: UR 122 :: UR 123 :: UR 124 :: UR 125 :: UR 126 :: UR 127 :: UR 128 :: UR 129 :: UR 130 :: UR 131 :: UR 132 :: UR 133 :: UR 134 :: UR 135 :: UR 136 :: UR 137 :: UR 138 :: UR 139 :: UR 140 :: UR 141 :: UR 142 :: UR 143 :: UR 144 :: UR 145 :: UR 146 :: UR 147 :: UR 148 :: UR 149 :: UR 150 :: UR 151 :: UR 152 :: UR 153 :: UR 154 :: UR 155 :: UR 156 :: UR 157 :: UR 158 :: UR 159 :: UR 160 :: UR 161 :: UR 162 :: UR 163 :: UR 164 :: UR 165 :: UR 166 :: UR 167 :: UR 168 :: UR 169 :: UR 170 :: UR 171 :: UR 172 :: UR 173 :: UR 174 :: UR 175 :: UR 176 :: UR 177 :: UR 178 :: UR 179 :: UR 180 :: UR 181 :: UR 182 :: UR 183 :: UR 184 :: UR 185 :: UR 186 :: UR 187 :: UR 188 :: UR 189 :: UR 190 :: UR 191 :: UR 192 :: UR 193 :: UR 194 :: UR 195 :: UR 196 :: UR 197 :: UR 198 :: UR 199 :: UR 200 :: UR 201 :: UR 202 :: UR 203 :: UR 204 :: UR 205 :: UR 206 :: UR 207 :: UR 208 :: UR 209 :: UR 210 :: UR 211 :: UR 212 :: UR 213 :: UR 214 :: UR 215 :: UR 216 :: UR 217 :: UR 218 :: UR 219 :: UR 220 :: UR 221 :: UR 222 :: UR 223 :: UR 224 :: UR 225 :: UR 226 :: UR 227 :: UR 228 :: UR 229 :: UR 230 :: UR 231 :: UR 232 :: UR 233 :: UR 234 :: UR 235 :: UR 236 :: UR 237 :: UR 238 :: UR 239 :: UR 240 :: UR 241 :: UR 242 :: UR 243 :: UR 244 :: UR 245 :: UR 246 :: UR 247 :: UR 248 :: UR 249 :: UR 250 :: UR 251 :: UR 252 :: UR 253 :: UR 254 :: UR 255 :: UR 256 :: UR 257 :: UR 258 :: UR 259 :: UR 260 :: UR 261 :: UR 262 :: UR 263 :: UR 264 :: UR 265 :: UR 266 :: UR 267 :: []), []⟩)) ⟨List.toArray (x0 :: x1 :: x2 :: .pointer (some ⟨mx, 0, none⟩) :: .pointer (some ⟨sb, 0, none⟩) :: .pointer (some ⟨b1, 0, none⟩) :: x6 :: x7 :: .int .i64 (q.t + pm) :: x9 :: .int .i64 (q.t) :: x11 :: x12 :: x13 :: x14 :: x15 :: x16 :: x17 :: x18 :: x19 :: x20 :: x21 :: x22 :: x23 :: x24 :: x25 :: x26 :: x27 :: x28 :: x29 :: x30 :: x31 :: x32 :: x33 :: x34 :: x35 :: x36 :: x37 :: x38 :: x39 :: x40 :: x41 :: x42 :: x43 :: x44 :: x45 :: x46 :: x47 :: x48 :: x49 :: x50 :: x51 :: x52 :: x53 :: x54 :: x55 :: x56 :: x57 :: x58 :: x59 :: x60 :: x61 :: x62 :: x63 :: x64 :: x65 :: x66 :: x67 :: x68 :: x69 :: x70 :: x71 :: x72 :: x73 :: x74 :: x75 :: x76 :: x77 :: x78 :: x79 :: x80 :: x81 :: x82 :: x83 :: x84 :: x85 :: x86 :: x87 :: x88 :: x89 :: x90 :: x91 :: x92 :: x93 :: x94 :: x95 :: x96 :: x97 :: x98 :: x99 :: (.slice go gn gc) :: .int .i64 (gn) :: .int .i64 (0) :: x103 :: x104 :: x105 :: x106 :: x107 :: x108 :: x109 :: x110 :: x111 :: x112 :: x113 :: x114 :: x115 :: x116 :: x117 :: x118 :: x119 :: x120 :: x121 :: x122 :: x123 :: x124 :: x125 :: x126 :: x127 :: x128 :: x129 :: x130 :: x131 :: x132 :: x133 :: x134 :: x135 :: x136 :: x137 :: x138 :: x139 :: x140 :: x141 :: x142 :: x143 :: x144 :: x145 :: x146 :: x147 :: x148 :: x149 :: x150 :: x151 :: x152 :: x153 :: x154 :: x155 :: x156 :: x157 :: x158 :: x159 :: x160 :: x161 :: x162 :: x163 :: x164 :: x165 :: x166 :: x167 :: x168 :: x169 :: x170 :: x171 :: x172 :: x173 :: x174 :: x175 :: x176 :: x177 :: x178 :: x179 :: x180 :: x181 :: x182 :: x183 :: x184 :: x185 :: x186 :: x187 :: x188 :: x189 :: x190 :: x191 :: x192 :: x193 :: x194 :: x195 :: x196 :: x197 :: x198 :: x199 :: x200 :: x201 :: x202 :: x203 :: x204 :: x205 :: x206 :: x207 :: x208 :: x209 :: x210 :: x211 :: x212 :: x213 :: x214 :: x215 :: x216 :: x217 :: x218 :: x219 :: x220 :: x221 :: x222 :: x223 :: x224 :: x225 :: x226 :: x227 :: x228 :: x229 :: x230 :: x231 :: x232 :: x233 :: x234 :: x235 :: x236 :: x237 :: x238 :: x239 :: x240 :: x241 :: x242 :: x243 :: x244 :: x245 :: x246 :: x247 :: x248 :: x249 :: x250 :: x251 :: x252 :: x253 :: x254 :: x255 :: x256 :: x257 :: x258 :: x259 :: x260 :: x261 :: x262 :: x263 :: x264 :: x265 :: x266 :: x267 :: []), []⟩ w7 := by
  conv => arg 2; whnf
  have hqt := HE7.tk
  have hgl := HE7.g.len
  rw [hgn] at hgl
  have HE7 := hid HE7
  have HPN := hid hpn
  have HGN := hid hgn
  have HDN := hid hdn
  have HGB := hid hgok.2
  have HDB := hid hdb
  have HDD := hid hdd
  clear hpn hgn hdn hgok hdb hdd
  obtain ⟨arr, harr⟩ : ∃ y : Int, q.t + (pm : Int) = y := ⟨_, rfl⟩
  rw [harr] at HDD
  rw [harr]
  have harr3 : q.t ≤ arr ∧ arr ≤ q.t + 1000 := by omega
  have HARR := hid harr
  clear harr
  go_loopw [10, 102] (fun y v wr => ∃ (e : Int) (k : Nat), y = .int .i64 (e) ∧ v = .int .i64 (k) ∧ k ≤ gn ∧ q.t ≤ e ∧ dwl path q.t arr e (q.gl.drop k) (done.drop k) = dd ∧ Below w7.heap.size w7 wr) (fun _ v _ => gn - (intOf v).toNat)
  case atStart => exact ⟨q.t, 0, rfl, rfl, Nat.zero_le _, Int.le_refl _, by simpa using HDD.out, Below.rf _⟩
  case round =>
    obtain ⟨e, k, rfl, rfl, hk, het, heq, hB⟩ := hrel
    have HB := hid hB
    have HE := hid (HE7.out.below hB)
    have q2 := HE.out.b.c2
    have q3 := HE.out.b.c3
    have hbl := HE.out.b.lt
    have s2 := HE.out.bq.c2
    have hsl := HE.out.bq.lt
    by_cases hkn : k < gn
    · have dk : decide ((k : Int) < (gn : Int)) = true := by simp; omega
      have dkn : decide (k < gn) = true := by simp; omega
      have hkg : k < q.gl.length := by rw [HGN.out]; exact hkn
      have hkd : k < done.length := by rw [HDN.out]; exact hkn
      have hgx : q.gl[k]? = some q.gl[k] := List.getElem?_eq_getElem hkg
      have hdx : done[k]? = some done[k] := List.getElem?_eq_getElem hkd
      have hgb := (HGB.out _ (List.getElem_mem hkg)).2
      have hdb := HDB.out _ (List.getElem_mem hkd)
      rw [List.drop_eq_getElem_cons hkg, List.drop_eq_getElem_cons hkd, dwl] at heq
      generalize q.gl[k] = g at *
      generalize done[k] = d0 at *
      obtain ⟨gc1, gd0⟩ := g
      simp only at hgb heq
      obtain ⟨gd, rfl⟩ : ∃ y : Nat, gd0 = y := ⟨gd0.toNat, by omega⟩
      rw [show ((gd : Int) + 1).toNat = gd + 1 by omega] at heq
      obtain ⟨gb, gn', gcap, hgv2, hgbl, -, y0, y1⟩ := HE.out.g.row k _ hgx
      obtain ⟨db, da, dn', dcap, hdv2, hdbl, -, y2⟩ := HE.out.d.row k _ hdx
      simp only [Value.slice.injEq] at hgv2 hdv2
      obtain ⟨rfl, -, -⟩ := hgv2
      obtain ⟨rfl, -, -⟩ := hdv2
      simp only at y0 y1
      have HEQ2 := hid heq
      clear hgx hdx hkg hkd heq hB
      go_wp2
      refine wp_nm fun w3 hw3 => ?_
      have hb3 : Below wr.heap.size wr w3 := by rw [hw3]; (repeat (first | with_reducible exact Below.rf _ | with_reducible exact World.below_ext _ _ | with_reducible refine Below.ex ?_ _ | with_reducible refine Below.al ?_ _ | with_reducible refine Below.setCell ?_ (by simp) _ | with_reducible refine Below.drew ?_))
      obtain ⟨tb, htb⟩ : ∃ y, wr.heap.size = y := ⟨_, rfl⟩
      have t0 : w3.cell? ⟨wr.heap.size, 0, none⟩ = some (.int .i64 (gc1)) := by rw [hw3]; simp [go_sem, ↓IntWalk.iteOmega]
      have t1 : w3.cell? ⟨wr.heap.size, 1, none⟩ = some (.int .i64 (gd)) := by rw [hw3]; simp [go_sem, ↓IntWalk.iteOmega]
      have htl : wr.heap.size < w3.heap.size := by rw [hw3]; simp
      rw [htb] at t0 t1 htl ⊢
      have q3' := (World.cell?_of_block (hb3.block b1 hbl)).trans q3
      have y2' := (World.cell?_of_block (hb3.block db hdbl)).trans y2
      have hdl4 := Nat.lt_of_lt_of_le hdbl hb3.size
      have hbl3 := Nat.lt_of_lt_of_le hbl hb3.size
      have HB3 : Hid (Below w7.heap.size w7 w3) := HB.out.trans (hb3.mono HB.out.size)
      have f1 : IntKind.i64.wrap (d0 - (gd : Int)) = d0 - (gd : Int) := by simp [IntKind.wrap, IntKind.bits, IntKind.signed]; omega
      obtain ⟨wo, rfl⟩ : ∃ y, y = wr := ⟨_, rfl⟩
      clear hw3 hb3 q2 q3 s2 hsl y0 y1 y2 hgbl hdbl hbl HB HE htb
      first | with_reducible refine wp_region_ext2 (by kernel_rfl) (by kernel_rfl) ?_ | refine wp_region_ext (by kernel_rfl) (by kernel_rfl) ?_
      repeat (go_big_quiet_step (fail))
      refine wpQuiet_nil ?_
      rintro w4 ⟨z, hw2⟩
      have hb4 : Below w3.heap.size w3 w4 := by rw [hw2]; exact World.below_ext w3 _
      have T0 := (World.cell?_of_block (hb4.block tb htl)).trans t0
      have Y2 := (World.cell?_of_block (hb4.block db hdl4)).trans y2'
      have HDL4 := Nat.lt_of_lt_of_le hdl4 hb4.size
      have HTL4 := Nat.lt_of_lt_of_le htl hb4.size
      have HB4 : Hid (Below w7.heap.size w7 w4) := HB3.out.trans (hb4.mono HB3.out.size)
      have HE4 := hid (HE7.out.below HB4.out)
      clear hw2 hb4 q3' t0 t1 htl y2' hdl4 hbl3 HB3
      obtain ⟨po', hpo'⟩ : ∃ y, onP path q.t gc1 (d0 - (gd : Int)) (gd + 1) = y := ⟨_, rfl⟩
      rw [hpo'] at HEQ2
      have HPO := hid hpo'
      clear hpo'
      go_wp2
      go_loopw [13] (fun v wr => ∃ j : Nat, v = .int .i64 (d0 - (gd : Int) + j) ∧ j ≤ gd + 1 ∧ onP path q.t gc1 (d0 - (gd : Int) + j) (gd + 1 - j) = po' ∧ (1 ≤ j → e ≤ d0 - gd ∧ d0 - gd + j ≤ arr + 1) ∧ Below w4.heap.size w4 wr) (fun v _ => gd + 1 - (intOf v - (d0 - (gd : Int))).toNat)
      case atStart => exact ⟨0, by go_num, Nat.zero_le _, by simpa using HPO.out, fun h => by omega, Below.rf _⟩
      case round =>
        obtain ⟨j, rfl, hj, hon, hjj, hB⟩ := hrel
        have HB := hid hB
        have HE := hid (HE4.out.below hB)
        have q2 := HE.out.b.c2
        have q3 := HE.out.b.c3
        have hbl := HE.out.b.lt
        have s2 := HE.out.bq.c2
        have hsl := HE.out.bq.lt
        have u0 := (World.cell?_of_block (hB.block tb HTL4)).trans T0
        have y2 := (World.cell?_of_block (hB.block db HDL4)).trans Y2
        have hdl5 := Nat.lt_of_lt_of_le HDL4 hB.size
        have htl5 := Nat.lt_of_lt_of_le HTL4 hB.size
        have HBA : Hid (Below w7.heap.size w7 wr) := HB4.out.trans (hB.mono HB4.out.size)
        by_cases hjn : j < gd + 1
        · have dj : decide (d0 - (gd : Int) + (j : Int) ≤ d0) = true := by simp; omega
          by_cases h1 : d0 - (gd : Int) + (j : Int) < e
          · --BEGIN 1
            have d1 : decide (d0 - (gd : Int) + (j : Int) < e) = true := by simp [h1]
            have HE2 : Hid (false = dd) := by
              have := HEQ2.out
              rw [if_pos (Or.inl (by omega))] at this
              exact this
            clear HEQ2 hon hjj hB
            go_wp2
            first | with_reducible refine wp_region_ext2 (by kernel_rfl) (by kernel_rfl) ?_ | refine wp_region_ext (by kernel_rfl) (by kernel_rfl) ?_
            repeat (go_big_quiet_step (fail))
            refine wpQuiet_nil ?_
            rintro w6 ⟨z, hw2⟩
            have HB6 : Hid (Below w7.heap.size w7 w6) := HBA.out.trans (Below.mono (by rw [hw2]; exact World.below_ext wr _) HBA.out.size)
            clear hw2
            go_wp2
            exact Or.inr ⟨rfl, HB6.out, HE2.out.symm, pickU rfl⟩
            --END 1
          have d1 : decide (d0 - (gd : Int) + (j : Int) < e) = false := by simp; omega
          by_cases h2 : arr < d0 - (gd : Int) + (j : Int)
          · --BEGIN 2
            have d2 : decide (arr < d0 - (gd : Int) + (j : Int)) = true := by simp [h2]
            have HE2 : Hid (false = dd) := by
              have := HEQ2.out
              rw [if_pos (Or.inr (by omega))] at this
              exact this
            clear HEQ2 hon hjj hB
            go_wp2
            first | with_reducible refine wp_region_ext2 (by kernel_rfl) (by kernel_rfl) ?_ | refine wp_region_ext (by kernel_rfl) (by kernel_rfl) ?_
            repeat (go_big_quiet_step (fail))
            refine wpQuiet_nil ?_
            rintro w6 ⟨z, hw2⟩
            have HB6 : Hid (Below w7.heap.size w7 w6) := HBA.out.trans (Below.mono (by rw [hw2]; exact World.below_ext wr _) HBA.out.size)
            clear hw2
            go_wp2
            exact Or.inr ⟨rfl, HB6.out, HE2.out.symm, pickU rfl⟩
            --END 2
          have d2 : decide (arr < d0 - (gd : Int) + (j : Int)) = false := by simp; omega
          obtain ⟨mi, hmi⟩ : ∃ y : Nat, d0 - (gd : Int) + (j : Int) - q.t = y := ⟨(d0 - (gd : Int) + (j : Int) - q.t).toNat, by omega⟩
          have hmn : mi < pm + 1 := by have := HARR.out; omega
          have hml : mi < path.length := by rw [HPN.out]; exact hmn
          obtain ⟨ji, hji⟩ : ∃ y, gd + 1 - j = y + 1 := ⟨gd - j, by omega⟩
          have hji2 : gd + 1 - (j + 1) = ji := by omega
          rw [hji, onP, hmi, Int.toNat_natCast] at hon
          obtain ⟨bk, ba, hpo, hbk, e9⟩ := ints_at HE.out.p (Below.rf wr) hml
          subst hpo
          generalize path.getD mi 0 = y at *
          have dmn : decide (mi < pm + 1) = true := by simp [hmn]
          have f2 : IntKind.i64.wrap (mi : Int) = (mi : Int) := by simp [IntKind.wrap, IntKind.bits, IntKind.signed]; omega
          by_cases hy : y = gc1
          · --BEGIN 3
            have dy : (y != gc1) = false := by simp [hy]
            have HON : Hid (onP path q.t gc1 (d0 - (gd : Int) + ((j + 1 : Nat) : Int)) (gd + 1 - (j + 1)) = po') := by
              unfold Hid
              rw [if_pos hy] at hon
              rw [hji2, ← hon]
              congr 1
              omega
            have HJ2 : Hid (1 ≤ j + 1 → e ≤ d0 - gd ∧ d0 - gd + ((j + 1 : Nat) : Int) ≤ arr + 1) := fun _ => ⟨by rcases Nat.eq_zero_or_pos j with hz | hz; (subst hz; omega); exact (hjj hz).1, by omega⟩
            clear hon hji hji2 hml hy hjj hB HEQ2
            go_wp2
            first | with_reducible refine wp_region_ext2 (by kernel_rfl) (by kernel_rfl) ?_ | refine wp_region_ext (by kernel_rfl) (by kernel_rfl) ?_
            repeat (go_big_quiet_step (fail))
            refine wpQuiet_nil ?_
            rintro w6 ⟨z, hw2⟩
            have HB6 : Hid (Below w4.heap.size w4 w6) := HB.out.trans (Below.mono (by rw [hw2]; exact World.below_ext wr _) HB.out.size)
            clear hw2 hmi
            go_wp2
            go_roundw
            case rel => exact ⟨j + 1, by go_num, by omega, HON.out, HJ2.out, HB6.out⟩
            case measure => (simp [intOf] <;> omega)
            --END 3
          · --BEGIN 4
            have dy : (y != gc1) = true := by simp [hy]
            have HE2 : Hid (false = dd) := by
              have := HEQ2.out
              rw [if_neg hy] at hon
              by_cases hq : d0 - (gd : Int) < e ∨ arr < d0
              · rw [if_pos hq] at this
                exact this
              · rw [if_neg hq, ← hon, if_neg (by simp)] at this
                exact this
            clear hon hji hji2 hml hy hjj hB HEQ2
            go_wp2
            first | with_reducible refine wp_region_ext2 (by kernel_rfl) (by kernel_rfl) ?_ | refine wp_region_ext (by kernel_rfl) (by kernel_rfl) ?_
            repeat (go_big_quiet_step (fail))
            refine wpQuiet_nil ?_
            rintro w6 ⟨z, hw2⟩
            clear hmi
            have HB6 : Hid (Below w7.heap.size w7 w6) := HBA.out.trans (Below.mono (by rw [hw2]; exact World.below_ext wr _) HBA.out.size)
            clear hw2
            go_wp2
            exact Or.inr ⟨rfl, HB6.out, HE2.out.symm, pickU rfl⟩
            --END 4
        · --BEGIN 5
          have dj : decide (d0 - (gd : Int) + (j : Int) ≤ d0) = false := by simp; omega
          have hjg : j = gd + 1 := by omega
          have hj1 := hjj (by omega)
          have HE2 : Hid (dwl path q.t arr d0 (q.gl.drop (k + 1)) (done.drop (k + 1)) = dd) := by
            have := HEQ2.out
            rw [show gd + 1 - j = 0 by omega, onP] at hon
            rw [if_neg (by omega), ← hon, if_pos rfl] at this
            exact this
          have hed : q.t ≤ d0 := by omega
          clear hon hB hjj HEQ2 hj1 hjg
          go_wp2
          go_roundw
          case rel => exact ⟨d0, k + 1, rfl, by go_num, by omega, hed, HE2.out, HBA.out⟩
          case measure => (simp [intOf] <;> omega)
          --END 5
    · --BEGIN 6
      have dk : decide ((k : Int) < (gn : Int)) = false := by simp; omega
      have dkn : decide (k < gn) = false := by simp; omega
      have HE2 : Hid (dd = true) := by
        rw [List.drop_eq_nil_of_le (by rw [HGN.out]; omega)] at heq
        unfold dwl at heq
        exact heq.symm
      clear heq hB
      go_wp2
      exact Or.inl ⟨rfl, HB.out, HE2.out, pickU rfl⟩
      --END 6
end Go.Proofs.Qxb6500716a
