/-
  Valid: its loop over the robots, cut out.
-/
import Derived.Test.Qxb6500716aWa
namespace Go.Proofs.Qxb6500716a
open Go.RowKit Go.Maps
set_option linter.unusedSimpArgs false
set_option linter.unusedVariables false
set_option maxRecDepth 20000
set_option maxHeartbeats 4000000
set_option maxRecDepth 1000000 in
set_option maxHeartbeats 400000000 in
theorem rb_loop (w7 : World) (lab : Nat → Nat) (mx mb sb b1 fb pm pc nb : Nat) (po : Option Addr) (M : TM) (F : FS) (T : TS) (q : Rq) (gv : Value) (c x : Int) (dv : Value) (path done : List Int)
    (HE7 : E16 w7 lab mx mb sb b1 fb M F T q gv c x (.slice po (pm + 1) pc) dv path done) (hpn : path.length = pm + 1) (hp1 : pm < 1000) (hnb : F.bays.length = nb) (vv : Bool) (hvv : vrK T q.r q.t path 0 nb = vv)
    (x0 x1 x2 x6 x7 x9 x10 x11 x12 x13 x14 x15 x18 x19 x20 x21 x22 x23 x24 x25 x26 x27 x28 x29 x30 x31 x32 x33 x34 x35 x36 x37 x38 x39 x40 x41 x42 x43 x44 x45 x46 x47 x48 x49 x50 x51 x52 x53 x54 x55 x56 x57 x58 x59 x60 x61 x62 x63 x64 x65 x66 x67 x68 x69 x70 x71 x72 x73 x74 x75 x76 x77 x78 x79 x80 x81 x82 x83 x84 x85 x86 x87 x88 x89 x90 x91 x92 x93 x94 x95 x96 x97 x98 x99 x100 x101 x102 x103 x104 x105 x106 x107 x108 x109 x110 x111 x112 x113 x114 x115 x116 x117 x118 x119 x120 x121 x122 x123 x124 x125 x126 x127 x128 x129 x130 x131 x132 x133 x134 x135 x136 x137 x138 x139 x140 x141 x142 x143 x144 x145 x146 x147 x148 x149 x150 x151 x152 x153 x154 x155 x156 x157 x158 x159 x160 x161 x162 x163 x164 x165 x166 x167 x168 x169 x170 x171 x172 x173 x174 x175 x176 x177 x178 x179 x180 x181 x182 x183 x184 x185 x186 x187 x188 x189 x190 x191 x192 x193 x194 x195 x196 x197 x198 x199 x200 x201 x202 x203 x204 x205 x206 x207 x208 x209 x210 x211 x212 x213 x214 x215 x216 x217 x218 x219 x220 x221 x222 x223 x224 x225 x226 x227 x228 x229 x230 x231 x232 x233 x234 x235 x236 x237 x238 x239 x240 x241 x242 x243 x244 x245 x246 x247 x248 x249 x250 x251 x252 x253 x254 x255 x256 x257 x258 x259 x260 x261 x262 x263 x264 x265 x266 x267 : Value) :
    Code.wp Try.prog ((Try.f16.body.bind (findBlock 6)).getD .skip) (lp16 6 w7 vv (fun a' => ∃ URB : Nat → Value, a' = ⟨List.toArray (x0 :: x1 :: x2 :: .pointer (some ⟨mx, 0, none⟩) :: .pointer (some ⟨sb, 0, none⟩) :: .pointer (some ⟨b1, 0, none⟩) :: URB 6 :: x7 :: .int .i64 (q.t + pm) :: x9 :: x10 :: x11 :: x12 :: x13 :: x14 :: x15 :: (.func (.func 57) #[] #[.pointer (some ⟨sb, 0, none⟩), .pointer (some ⟨mx, 0, none⟩), .pointer (some ⟨b1, 0, none⟩)]) :: URB 17 :: URB 18 :: URB 19 :: URB 20 :: x21 :: x22 :: x23 :: x24 :: x25 :: x26 :: x27 :: x28 :: x29 :: x30 :: x31 :: x32 :: x33 :: x34 :: x35 :: x36 :: x37 :: x38 :: x39 :: x40 :: x41 :: x42 :: x43 :: x44 :: x45 :: x46 :: x47 :: x48 :: x49 :: x50 :: x51 :: x52 :: x53 :: x54 :: x55 :: x56 :: x57 :: x58 :: x59 :: x60 :: x61 :: x62 :: x63 :: x64 :: x65 :: x66 :: x67 :: x68 :: x69 :: x70 :: x71 :: x72 :: x73 :: x74 :: x75 :: x76 :: x77 :: x78 :: x79 :: x80 :: x81 :: x82 :: x83 :: x84 :: x85 :: x86 :: x87 :: x88 :: x89 :: x90 :: x91 :: x92 :: x93 :: x94 :: x95 :: x96 :: x97 :: x98 :: x99 :: x100 :: x101 :: x102 :: x103 :: x104 :: x105 :: x106 :: x107 :: x108 :: x109 :: x110 :: x111 :: x112 :: x113 :: x114 :: x115 :: x116 :: x117 :: x118 :: x119 :: x120 :: x121 :: x122 :: x123 :: x124 :: x125 :: x126 :: x127 :: x128 :: x129 :: x130 :: x131 :: x132 :: x133 :: x134 :: x135 :: x136 :: x137 :: x138 :: x139 :: x140 :: x141 :: x142 :: x143 :: x144 :: x145 :: x146 :: x147 :: x148 :: x149 :: x150 :: x151 :: x152 :: x153 :: x154 :: x155 :: x156 :: x157 :: x158 :: x159 :: x160 :: x161 :: x162 :: x163 :: x164 :: x165 :: x166 :: x167 :: x168 :: x169 :: x170 :: x171 :: x172 :: x173 :: x174 :: x175 :: x176 :: x177 :: x178 :: x179 :: x180 :: x181 :: x182 :: x183 :: x184 :: x185 :: URB 186 :: URB 187 :: URB 188 :: URB 189 :: URB 190 :: URB 191 :: URB 192 :: URB 193 :: URB 194 :: URB 195 :: URB 196 :: URB 197 :: URB 198 :: URB 199 :: URB 200 :: URB 201 :: URB 202 :: URB 203 :: URB 204 :: URB 205 :: URB 206 :: URB 207 :: URB 208 :: URB 209 :: URB 210 :: URB 211 :: URB 212 :: URB 213 :: URB 214 :: URB 215 :: URB 216 :: URB 217 :: URB 218 :: URB 219 :: URB 220 :: URB 221 :: URB 222 :: URB 223 :: URB 224 :: URB 225 :: URB 226 :: URB 227 :: URB 228 :: URB 229 :: URB 230 :: URB 231 :: URB 232 :: URB 233 :: URB 234 :: URB 235 :: URB 236 :: URB 237 :: URB 238 :: URB 239 :: URB 240 :: URB 241 :: URB 242 :: URB 243 :: URB 244 :: URB 245 :: URB 246 :: URB 247 :: URB 248 :: URB 249 :: URB 250 :: URB 251 :: URB 252 :: URB 253 :: x254 :: x255 :: x256 :: x257 :: x258 :: x259 :: x260 :: x261 :: x262 :: x263 :: x264 :: x265 :: x266 :: x267 :: []), []⟩) (fun a' => ∃ UR : Nat → Value, a' = ⟨List.toArray (UR 0 :: UR 1 :: UR 2 :: UR 3 :: UR 4 :: UR 5 :: (.bool false) :: UR 7 :: UR 8 :: UR 9 :: UR 10 :: UR 11 :: UR 12 :: UR 13 :: UR 14 :: UR 15 :: UR 16 :: UR 17 :: UR 18 :: UR 19 :: UR 20 :: UR 21 :: UR 22 :: UR 23 :: UR 24 :: UR 25 :: UR 26 :: UR 27 :: UR 28 :: UR 29 :: UR 30 :: UR 31 :: UR 32 :: UR 33 :: UR 34 :: UR 35 :: UR 36 :: UR 37 :: UR 38 :: UR 39 :: UR 40 :: UR 41 :: UR 42 :: UR 43 :: UR 44 :: UR 45 :: UR 46 :: UR 47 :: UR 48 :: UR 49 :: UR 50 :: UR 51 :: UR 52 :: UR 53 :: UR 54 :: UR 55 :: UR 56 :: UR 57 :: UR 58 :: UR 59 :: UR 60 :: UR 61 :: UR 62 :: UR 63 :: UR 64 :: UR 65 :: UR 66 :: UR 67 :: UR 68 :: UR 69 :: UR 70 :: UR 71 :: UR 72 :: UR 73 :: UR 74 :: UR 75 :: UR 76 :: UR 77 :: UR 78 :: UR 79 :: UR 80 :: UR 81 :: UR 82 :: UR 83 :: UR 84 :: UR 85 :: UR 86 :: UR 87 :: UR 88 :: UR 89 :: UR 90 :: UR 91 :: UR 92 :: UR 93 :: UR 94 :: UR 95 :: UR 96 :: UR 97 :: UR 98 :: UR 99 :: UR 100 :: UR 101 :: UR 102 :: UR 103 :: UR 104 :: UR 105 :: UR 106 :: UR 107 :: UR 108 :: UR 109 :: UR 110 :: UR 111 :: UR 112 :: UR 113 :: UR 114 :: UR 115 :: UR 116 :: UR 117 :: UR 118 :: UR 119 :: UR 120 :: UR 121 :: UR 122 :: UR 123 :: UR 124 :: UR 125 :: UR 126 :: UR 127 :: UR 128 :: UR 129 :: UR 130 :: UR 131 :: UR 132 :: UR 133 :: UR 134 :: UR 135 :: UR 136 :: UR 137 :: UR 138 :: UR 139 :: UR 140 :: UR 141 :: UR 142 :: UR 143 :: UR 144 :: UR 145 :: UR 146 :: UR 147 :: UR 148 :: UR 149 :: UR 150 :: UR 151 :: UR 152 :: UR 153 :: UR 154 :: UR 155 :: UR 156 :: UR 157 :: UR 158 :: UR 159 :: UR 160 :: UR 161 :: UR 162 :: UR 163 :: UR 164 :: UR 165 :: UR 166 :: UR 167 :: UR 168 :: UR 169 :: UR 170 :: UR 171 :: UR 172 :: UR 173 :: UR 174 :: UR 175 :: UR 176 :: UR 177 :: UR 178 :: UR 179 :: UR 180 :: UR 181 :: UR 182 :: UR 183 :: UR 184 :: UR 185 :: UR 186 :: UR 187 :: UR 188 :: UR 189 :: UR 190 :: UR 191 :: UR 192 :: UR 193 :: UR 194 :: UR 195 :: UR 196 :: UR 197 :: UR 198 :: UR 199 :: UR 200 :: UR 201 :: UR 202 :: UR 203 :: UR 204 :: UR 205 :: UR 206 :: UR 207 :: UR 208 :: UR 209 :: UR 210 :: UR 211 :: UR 212 :: UR 213 :: UR 214 :: UR 215 :: UR 216 :: UR 217 :: UR 218 :: UR 219 :: UR 220 :: UR 221 :: UR 222 :: UR 223 :: UR 224 :: UR 225 :: UR 226 :: UR 227 :: UR 228 :: UR 229 :: UR 230 :: UR 231 :: UR 232 :: UR 233 :: UR 234 :: UR 235 :: UR 236 :: UR 237 :: UR 238 :: UR 239 :: UR 240 :: UR 241 :: UR 242 :: UR 243 :: UR 244 :: UR 245 :: UR 246 :: UR 247 :: UR 248 :: UR 249 :: UR 250 :: UR 251 :: UR 252 :: UR 253 :: UR 254 :: UR 255 :: UR 256 :: UR 257 :: UR 258 :: UR 259 :: UR 260 :: UR 261 :: UR 262 :: UR 263 :: UR 264 :: UR 265 :: UR 266 :: UR 267 :: []), []⟩)) ⟨List.toArray (x0 :: x1 :: x2 :: .pointer (some ⟨mx, 0, none⟩) :: .pointer (some ⟨sb, 0, none⟩) :: .pointer (some ⟨b1, 0, none⟩) :: x6 :: x7 :: .int .i64 (q.t + pm) :: x9 :: x10 :: x11 :: x12 :: x13 :: x14 :: x15 :: (.func (.func 57) #[] #[.pointer (some ⟨sb, 0, none⟩), .pointer (some ⟨mx, 0, none⟩), .pointer (some ⟨b1, 0, none⟩)]) :: .int .i64 (0) :: x18 :: x19 :: x20 :: x21 :: x22 :: x23 :: x24 :: x25 :: x26 :: x27 :: x28 :: x29 :: x30 :: x31 :: x32 :: x33 :: x34 :: x35 :: x36 :: x37 :: x38 :: x39 :: x40 :: x41 :: x42 :: x43 :: x44 :: x45 :: x46 :: x47 :: x48 :: x49 :: x50 :: x51 :: x52 :: x53 :: x54 :: x55 :: x56 :: x57 :: x58 :: x59 :: x60 :: x61 :: x62 :: x63 :: x64 :: x65 :: x66 :: x67 :: x68 :: x69 :: x70 :: x71 :: x72 :: x73 :: x74 :: x75 :: x76 :: x77 :: x78 :: x79 :: x80 :: x81 :: x82 :: x83 :: x84 :: x85 :: x86 :: x87 :: x88 :: x89 :: x90 :: x91 :: x92 :: x93 :: x94 :: x95 :: x96 :: x97 :: x98 :: x99 :: x100 :: x101 :: x102 :: x103 :: x104 :: x105 :: x106 :: x107 :: x108 :: x109 :: x110 :: x111 :: x112 :: x113 :: x114 :: x115 :: x116 :: x117 :: x118 :: x119 :: x120 :: x121 :: x122 :: x123 :: x124 :: x125 :: x126 :: x127 :: x128 :: x129 :: x130 :: x131 :: x132 :: x133 :: x134 :: x135 :: x136 :: x137 :: x138 :: x139 :: x140 :: x141 :: x142 :: x143 :: x144 :: x145 :: x146 :: x147 :: x148 :: x149 :: x150 :: x151 :: x152 :: x153 :: x154 :: x155 :: x156 :: x157 :: x158 :: x159 :: x160 :: x161 :: x162 :: x163 :: x164 :: x165 :: x166 :: x167 :: x168 :: x169 :: x170 :: x171 :: x172 :: x173 :: x174 :: x175 :: x176 :: x177 :: x178 :: x179 :: x180 :: x181 :: x182 :: x183 :: x184 :: x185 :: x186 :: x187 :: x188 :: x189 :: x190 :: x191 :: x192 :: x193 :: x194 :: x195 :: x196 :: x197 :: x198 :: x199 :: x200 :: x201 :: x202 :: x203 :: x204 :: x205 :: x206 :: x207 :: x208 :: x209 :: x210 :: x211 :: x212 :: x213 :: x214 :: x215 :: x216 :: x217 :: x218 :: x219 :: x220 :: x221 :: x222 :: x223 :: x224 :: x225 :: x226 :: x227 :: x228 :: x229 :: x230 :: x231 :: x232 :: x233 :: x234 :: x235 :: x236 :: x237 :: x238 :: x239 :: x240 :: x241 :: x242 :: x243 :: x244 :: x245 :: x246 :: x247 :: x248 :: x249 :: x250 :: x251 :: x252 :: x253 :: x254 :: x255 :: x256 :: x257 :: x258 :: x259 :: x260 :: x261 :: x262 :: x263 :: x264 :: x265 :: x266 :: x267 :: []), []⟩ w7 := by
  conv => arg 2; whnf
  have hqt := HE7.tk
  have hqr := HE7.r
  have hnb6 := HE7.f.ok.nb.2
  rw [hnb] at hnb6
  have HE7 := hid HE7
  have HPN := hid hpn
  have HNB := hid hnb
  have HVV := hid hvv
  unfold I64 at hqr
  clear hpn hnb hvv
  go_loopw [17] (fun v wr => ∃ k : Nat, v = .int .i64 (k) ∧ k ≤ nb ∧ vrK T q.r q.t path k (nb - k) = vv ∧ Below w7.heap.size w7 wr) (fun v _ => nb - (intOf v).toNat)
  case atStart => exact ⟨0, rfl, Nat.zero_le _, HVV.out, Below.rf _⟩
  case round =>
    obtain ⟨k, rfl, hk, heq, hB⟩ := hrel
    have HB := hid hB
    have HE := hid (HE7.out.below hB)
    have s0 := HE.out.bq.c0
    have s2 := HE.out.bq.c2
    have hsl := HE.out.bq.lt
    have m0 := HE.out.mc
    have hml := HE.out.ml
    have n0 := HE.out.m.c0
    have hnl := HE.out.m.lt
    have RO : Hid (∀ w' : World, Below wr.heap.size wr w' → Calls Try.prog 23 #[.pointer (some ⟨fb, 0, none⟩)] w' fun e w'' => e = .returned (.int .i64 (nb)) ∧ w'' = w') := fun w' h => by
      have := robots_any fb F lab w' (HE.out.f.below h)
      rw [HNB.out] at this
      exact this
    clear hB
    by_cases hkn : k < nb
    · have dk : decide ((k : Int) < (nb : Int)) = true := by simp; omega
      have dkn : decide (k < nb) = true := by simp; omega
      obtain ⟨j, hj⟩ : ∃ j, nb - k = j + 1 := ⟨nb - k - 1, by omega⟩
      have hj2 : nb - (k + 1) = j := by omega
      rw [hj, vrK, HPN.out] at heq
      by_cases hkr : (k : Int) = q.r
      · --BEGIN 1
        have dr : ((k : Int) == q.r) = true := by simp [hkr]
        rw [if_neg (fun e => e.1 hkr)] at heq
        have HEQ : Hid (vrK T q.r q.t path (k + 1) (nb - (k + 1)) = vv) := by rw [hj2]; exact heq
        clear heq hkr hj hj2
        go_wp2_with (first | (go_at_call 23; refine (RO.out _ (by (repeat (first | with_reducible exact Below.rf _ | with_reducible exact World.below_ext _ _ | with_reducible refine Below.ex ?_ _ | with_reducible refine Below.al ?_ _ | with_reducible refine Below.setCell ?_ (by simp) _ | with_reducible refine Below.drew ?_)))).mono ?_; rintro e w' ⟨rfl, hw'⟩; obtain rfl := hw'.symm))
        go_roundw
        case rel => exact ⟨k + 1, by go_num, by omega, HEQ.out, HB.out⟩
        case measure => (simp [intOf] <;> omega)
        --END 1
      · --BEGIN 2
        have dr : ((k : Int) == q.r) = false := by simp [hkr]
        obtain ⟨vi, hvi⟩ : ∃ y, vrI T q.r q.t path k 0 (pm + 1) = y := ⟨_, rfl⟩
        rw [hvi] at heq
        have HEQ : Hid ((if vi = false then false else vrK T q.r q.t path (k + 1) (nb - (k + 1))) = vv) := by
          unfold Hid
          rw [hj2, ← heq]
          cases vi with
          | false => rw [if_pos rfl, if_pos ⟨hkr, rfl⟩]
          | true => rw [if_neg (by simp), if_neg (fun h => by cases h.2)]
        have HVI := hid hvi
        clear heq hkr hj hj2 hvi
        go_wp2_with (first | (go_at_call 23; refine (RO.out _ (by (repeat (first | with_reducible exact Below.rf _ | with_reducible exact World.below_ext _ _ | with_reducible refine Below.ex ?_ _ | with_reducible refine Below.al ?_ _ | with_reducible refine Below.setCell ?_ (by simp) _ | with_reducible refine Below.drew ?_)))).mono ?_; rintro e w' ⟨rfl, hw'⟩; obtain rfl := hw'.symm))
        obtain ⟨wo, rfl⟩ : ∃ y, y = wr := ⟨_, rfl⟩
        clear s0 s2 hsl m0 hml n0 hnl RO
        have HEO := HE
        clear HE
        go_loopw [18] (fun v wr => ∃ i : Nat, v = .int .i64 (q.t + (i : Int)) ∧ i ≤ pm + 1 ∧ vrI T q.r q.t path k i (pm + 1 - i) = vi ∧ Below wo.heap.size wo wr) (fun v _ => pm + 1 - (intOf v - q.t).toNat)
        case atStart => exact ⟨0, by go_num, Nat.zero_le _, HVI.out, Below.rf _⟩
        case round =>
          obtain ⟨i, rfl, hi, heq, hB⟩ := hrel
          have HBI := hid hB
          have HE := hid (HEO.out.below hB)
          have HBA : Hid (Below w7.heap.size w7 wr) := HB.out.trans (hB.mono HB.out.size)
          have m0 := HE.out.mc
          have hml := HE.out.ml
          have n1 := HE.out.m.c1
          have hnl := HE.out.m.lt
          clear hB
          by_cases hin : i < pm + 1
          · --BEGIN 3
            have di : decide (q.t + (i : Int) ≤ q.t + (pm : Int)) = true := by simp; omega
            have din : decide (i ≤ pm) = true := by simp; omega
            obtain ⟨j, hj⟩ : ∃ j, pm + 1 - i = j + 1 := ⟨pm + 1 - i - 1, by omega⟩
            have hj2 : pm + 1 - (i + 1) = j := by omega
            rw [hj, vrI, ← hj2] at heq
            clear hj hj2
            unfold vr1 at heq
            have hil : i < path.length := by rw [HPN.out]; exact hin
            obtain ⟨va, hva⟩ : ∃ y, T.at k (q.t + i) = y := ⟨_, rfl⟩
            obtain ⟨vb, hvb⟩ : ∃ y, T.at k (q.t + i - 1) = y := ⟨_, rfl⟩
            obtain ⟨y, hy⟩ : ∃ y, path.getD i 0 = y := ⟨_, rfl⟩
            obtain ⟨a, ha⟩ : ∃ y, whr T q.r q.t path i = y := ⟨_, rfl⟩
            rw [hva, hvb, hy, ha] at heq
            have A0 : Hid (∀ w' : World, Below wr.heap.size wr w' → Calls Try.prog 24 #[.pointer (some ⟨M.t, 0, none⟩), .int .i64 (k), .int .i64 (q.t + (i : Int))] w' fun e w'' => e = .returned (.int .i64 (va)) ∧ ∃ z, w'' = w'.ext z) := fun w' h => by
              have := at_any M T lab (k) (q.t + (i : Int)) w' (HE.out.t.below h) (by unfold I64; omega) (by unfold I64; omega)
              rw [hva] at this
              exact this
            have A1 : Hid (∀ w' : World, Below wr.heap.size wr w' → Calls Try.prog 24 #[.pointer (some ⟨M.t, 0, none⟩), .int .i64 (k), .int .i64 (q.t + (i : Int) - 1)] w' fun e w'' => e = .returned (.int .i64 (vb)) ∧ ∃ z, w'' = w'.ext z) := fun w' h => by
              have := at_any M T lab (k) (q.t + (i : Int) - 1) w' (HE.out.t.below h) (by unfold I64; omega) (by unfold I64; omega)
              rw [hvb] at this
              exact this
            have W0 : Hid (∀ w' : World, Below wr.heap.size wr w' → Calls Try.prog 57 #[.int .i64 (q.t + (i : Int)), .pointer (some ⟨sb, 0, none⟩), .pointer (some ⟨mx, 0, none⟩), .pointer (some ⟨b1, 0, none⟩)] w' fun e w'' => e = .returned (.int .i64 (y)) ∧ ∃ z, w'' = w'.ext z) := fun w' h => by
              have := where_ge w' lab mx mb sb b1 fb M F T q gv c x _ dv path done (HE.out.below h) i hil (by rw [HPN.out]; omega)
              rw [hy] at this
              exact this.mono (by rintro e w'' ⟨rfl, rfl⟩; exact ⟨rfl, (Below.rf w'').is_ext⟩)
            have W1 : Hid (∀ w' : World, Below wr.heap.size wr w' → Calls Try.prog 57 #[.int .i64 (q.t + (i : Int) - 1), .pointer (some ⟨sb, 0, none⟩), .pointer (some ⟨mx, 0, none⟩), .pointer (some ⟨b1, 0, none⟩)] w' fun e w'' => e = .returned (.int .i64 (a)) ∧ ∃ z, w'' = w'.ext z) := fun w' h => by
              rw [← ha]
              unfold whr
              by_cases hz : i = 0
              · subst hz
                rw [if_pos rfl, show q.t + ((0 : Nat) : Int) - 1 = q.t - 1 by omega]
                exact where_lt w' lab mx mb sb b1 fb M F T q gv c x _ dv path done (HE.out.below h)
              · obtain ⟨i', rfl⟩ : ∃ y, i = y + 1 := ⟨i - 1, by omega⟩
                rw [if_neg hz, show q.t + ((i' + 1 : Nat) : Int) - 1 = q.t + (i' : Int) by omega, show i' + 1 - 1 = i' from rfl]
                exact (where_ge w' lab mx mb sb b1 fb M F T q gv c x _ dv path done (HE.out.below h) i' (by omega) (by rw [HPN.out]; omega)).mono (by rintro e w'' ⟨rfl, rfl⟩; exact ⟨rfl, (Below.rf w'').is_ext⟩)
            clear hva hvb hy ha hil
            by_cases h1 : va = y
            · have d1 : (va == y) = true := by simp [h1]
              have HQ : Hid (false = vv) := by
                unfold Hid
                rw [if_pos (by simp [h1])] at heq
                have := HEQ.out
                rw [if_pos heq.symm] at this
                exact this
              clear heq HEQ h1
              go_wp2_with (first | (go_at_call 24; with_reducible refine (A0.out _ (by (repeat (first | with_reducible exact Below.rf _ | with_reducible exact World.below_ext _ _ | with_reducible refine Below.ex ?_ _ | with_reducible refine Below.al ?_ _ | with_reducible refine Below.setCell ?_ (by simp) _ | with_reducible refine Below.drew ?_)))).mono ?_; rintro e w' ⟨rfl, z, rfl⟩) | (go_at_call 24; with_reducible refine (A1.out _ (by (repeat (first | with_reducible exact Below.rf _ | with_reducible exact World.below_ext _ _ | with_reducible refine Below.ex ?_ _ | with_reducible refine Below.al ?_ _ | with_reducible refine Below.setCell ?_ (by simp) _ | with_reducible refine Below.drew ?_)))).mono ?_; rintro e w' ⟨rfl, z, rfl⟩) | (go_at_call 57; with_reducible refine (W0.out _ (by (repeat (first | with_reducible exact Below.rf _ | with_reducible exact World.below_ext _ _ | with_reducible refine Below.ex ?_ _ | with_reducible refine Below.al ?_ _ | with_reducible refine Below.setCell ?_ (by simp) _ | with_reducible refine Below.drew ?_)))).mono ?_; rintro e w' ⟨rfl, z, rfl⟩) | (go_at_call 57; with_reducible refine (W1.out _ (by (repeat (first | with_reducible exact Below.rf _ | with_reducible exact World.below_ext _ _ | with_reducible refine Below.ex ?_ _ | with_reducible refine Below.al ?_ _ | with_reducible refine Below.setCell ?_ (by simp) _ | with_reducible refine Below.drew ?_)))).mono ?_; rintro e w' ⟨rfl, z, rfl⟩))
              exact Or.inr ⟨rfl, HBA.out.trans (Below.mono (by (repeat (first | with_reducible exact Below.rf _ | with_reducible exact World.below_ext _ _ | with_reducible refine Below.ex ?_ _ | with_reducible refine Below.al ?_ _ | with_reducible refine Below.setCell ?_ (by simp) _ | with_reducible refine Below.drew ?_))) HBA.out.size), HQ.out.symm, pickU rfl⟩
            have d1 : (va == y) = false := by simp [h1]
            by_cases h2 : a = -1
            · have d2 : (a != -1) = false := by simp [h2]
              have HQ : Hid (vrI T q.r q.t path k (i + 1) (pm + 1 - (i + 1)) = vi) := by
                unfold Hid
                rw [if_neg (by simp [h1, h2])] at heq
                exact heq
              clear heq HEQ h1 h2
              go_wp2_with (first | (go_at_call 24; with_reducible refine (A0.out _ (by (repeat (first | with_reducible exact Below.rf _ | with_reducible exact World.below_ext _ _ | with_reducible refine Below.ex ?_ _ | with_reducible refine Below.al ?_ _ | with_reducible refine Below.setCell ?_ (by simp) _ | with_reducible refine Below.drew ?_)))).mono ?_; rintro e w' ⟨rfl, z, rfl⟩) | (go_at_call 24; with_reducible refine (A1.out _ (by (repeat (first | with_reducible exact Below.rf _ | with_reducible exact World.below_ext _ _ | with_reducible refine Below.ex ?_ _ | with_reducible refine Below.al ?_ _ | with_reducible refine Below.setCell ?_ (by simp) _ | with_reducible refine Below.drew ?_)))).mono ?_; rintro e w' ⟨rfl, z, rfl⟩) | (go_at_call 57; with_reducible refine (W0.out _ (by (repeat (first | with_reducible exact Below.rf _ | with_reducible exact World.below_ext _ _ | with_reducible refine Below.ex ?_ _ | with_reducible refine Below.al ?_ _ | with_reducible refine Below.setCell ?_ (by simp) _ | with_reducible refine Below.drew ?_)))).mono ?_; rintro e w' ⟨rfl, z, rfl⟩) | (go_at_call 57; with_reducible refine (W1.out _ (by (repeat (first | with_reducible exact Below.rf _ | with_reducible exact World.below_ext _ _ | with_reducible refine Below.ex ?_ _ | with_reducible refine Below.al ?_ _ | with_reducible refine Below.setCell ?_ (by simp) _ | with_reducible refine Below.drew ?_)))).mono ?_; rintro e w' ⟨rfl, z, rfl⟩))
              go_roundw
              case rel => exact ⟨i + 1, by go_num, by omega, HQ.out, HBI.out.trans (Below.mono (by (repeat (first | with_reducible exact Below.rf _ | with_reducible exact World.below_ext _ _ | with_reducible refine Below.ex ?_ _ | with_reducible refine Below.al ?_ _ | with_reducible refine Below.setCell ?_ (by simp) _ | with_reducible refine Below.drew ?_))) HBI.out.size)⟩
              case measure => (simp [intOf] <;> omega)
            have d2 : (a != -1) = true := by simp [h2]
            by_cases h3 : a = y
            · have d3 : (a != y) = false := by simp [h3]
              have HQ : Hid (vrI T q.r q.t path k (i + 1) (pm + 1 - (i + 1)) = vi) := by
                unfold Hid
                rw [if_neg (by simp [h1, h3])] at heq
                exact heq
              clear heq HEQ h1 h2 h3
              go_wp2_with (first | (go_at_call 24; with_reducible refine (A0.out _ (by (repeat (first | with_reducible exact Below.rf _ | with_reducible exact World.below_ext _ _ | with_reducible refine Below.ex ?_ _ | with_reducible refine Below.al ?_ _ | with_reducible refine Below.setCell ?_ (by simp) _ | with_reducible refine Below.drew ?_)))).mono ?_; rintro e w' ⟨rfl, z, rfl⟩) | (go_at_call 24; with_reducible refine (A1.out _ (by (repeat (first | with_reducible exact Below.rf _ | with_reducible exact World.below_ext _ _ | with_reducible refine Below.ex ?_ _ | with_reducible refine Below.al ?_ _ | with_reducible refine Below.setCell ?_ (by simp) _ | with_reducible refine Below.drew ?_)))).mono ?_; rintro e w' ⟨rfl, z, rfl⟩) | (go_at_call 57; with_reducible refine (W0.out _ (by (repeat (first | with_reducible exact Below.rf _ | with_reducible exact World.below_ext _ _ | with_reducible refine Below.ex ?_ _ | with_reducible refine Below.al ?_ _ | with_reducible refine Below.setCell ?_ (by simp) _ | with_reducible refine Below.drew ?_)))).mono ?_; rintro e w' ⟨rfl, z, rfl⟩) | (go_at_call 57; with_reducible refine (W1.out _ (by (repeat (first | with_reducible exact Below.rf _ | with_reducible exact World.below_ext _ _ | with_reducible refine Below.ex ?_ _ | with_reducible refine Below.al ?_ _ | with_reducible refine Below.setCell ?_ (by simp) _ | with_reducible refine Below.drew ?_)))).mono ?_; rintro e w' ⟨rfl, z, rfl⟩))
              go_roundw
              case rel => exact ⟨i + 1, by go_num, by omega, HQ.out, HBI.out.trans (Below.mono (by (repeat (first | with_reducible exact Below.rf _ | with_reducible exact World.below_ext _ _ | with_reducible refine Below.ex ?_ _ | with_reducible refine Below.al ?_ _ | with_reducible refine Below.setCell ?_ (by simp) _ | with_reducible refine Below.drew ?_))) HBI.out.size)⟩
              case measure => (simp [intOf] <;> omega)
            have d3 : (a != y) = true := by simp [h3]
            by_cases h4 : vb = y
            case neg =>
              have d4 : (vb == y) = false := by simp [h4]
              have HQ : Hid (vrI T q.r q.t path k (i + 1) (pm + 1 - (i + 1)) = vi) := by
                unfold Hid
                rw [if_neg (by simp [h1, h4])] at heq
                exact heq
              clear heq HEQ h1 h2 h3 h4
              go_wp2_with (first | (go_at_call 24; with_reducible refine (A0.out _ (by (repeat (first | with_reducible exact Below.rf _ | with_reducible exact World.below_ext _ _ | with_reducible refine Below.ex ?_ _ | with_reducible refine Below.al ?_ _ | with_reducible refine Below.setCell ?_ (by simp) _ | with_reducible refine Below.drew ?_)))).mono ?_; rintro e w' ⟨rfl, z, rfl⟩) | (go_at_call 24; with_reducible refine (A1.out _ (by (repeat (first | with_reducible exact Below.rf _ | with_reducible exact World.below_ext _ _ | with_reducible refine Below.ex ?_ _ | with_reducible refine Below.al ?_ _ | with_reducible refine Below.setCell ?_ (by simp) _ | with_reducible refine Below.drew ?_)))).mono ?_; rintro e w' ⟨rfl, z, rfl⟩) | (go_at_call 57; with_reducible refine (W0.out _ (by (repeat (first | with_reducible exact Below.rf _ | with_reducible exact World.below_ext _ _ | with_reducible refine Below.ex ?_ _ | with_reducible refine Below.al ?_ _ | with_reducible refine Below.setCell ?_ (by simp) _ | with_reducible refine Below.drew ?_)))).mono ?_; rintro e w' ⟨rfl, z, rfl⟩) | (go_at_call 57; with_reducible refine (W1.out _ (by (repeat (first | with_reducible exact Below.rf _ | with_reducible exact World.below_ext _ _ | with_reducible refine Below.ex ?_ _ | with_reducible refine Below.al ?_ _ | with_reducible refine Below.setCell ?_ (by simp) _ | with_reducible refine Below.drew ?_)))).mono ?_; rintro e w' ⟨rfl, z, rfl⟩))
              go_roundw
              case rel => exact ⟨i + 1, by go_num, by omega, HQ.out, HBI.out.trans (Below.mono (by (repeat (first | with_reducible exact Below.rf _ | with_reducible exact World.below_ext _ _ | with_reducible refine Below.ex ?_ _ | with_reducible refine Below.al ?_ _ | with_reducible refine Below.setCell ?_ (by simp) _ | with_reducible refine Below.drew ?_))) HBI.out.size)⟩
              case measure => (simp [intOf] <;> omega)
            have d4 : (vb == y) = true := by simp [h4]
            by_cases h5 : va = a
            · have d5 : (va == a) = true := by simp [h5]
              have HQ : Hid (false = vv) := by
                unfold Hid
                rw [if_pos (by simp [h2, h3, h4, h5])] at heq
                have := HEQ.out
                rw [if_pos heq.symm] at this
                exact this
              clear heq HEQ h1 h2 h3 h4 h5
              go_wp2_with (first | (go_at_call 24; with_reducible refine (A0.out _ (by (repeat (first | with_reducible exact Below.rf _ | with_reducible exact World.below_ext _ _ | with_reducible refine Below.ex ?_ _ | with_reducible refine Below.al ?_ _ | with_reducible refine Below.setCell ?_ (by simp) _ | with_reducible refine Below.drew ?_)))).mono ?_; rintro e w' ⟨rfl, z, rfl⟩) | (go_at_call 24; with_reducible refine (A1.out _ (by (repeat (first | with_reducible exact Below.rf _ | with_reducible exact World.below_ext _ _ | with_reducible refine Below.ex ?_ _ | with_reducible refine Below.al ?_ _ | with_reducible refine Below.setCell ?_ (by simp) _ | with_reducible refine Below.drew ?_)))).mono ?_; rintro e w' ⟨rfl, z, rfl⟩) | (go_at_call 57; with_reducible refine (W0.out _ (by (repeat (first | with_reducible exact Below.rf _ | with_reducible exact World.below_ext _ _ | with_reducible refine Below.ex ?_ _ | with_reducible refine Below.al ?_ _ | with_reducible refine Below.setCell ?_ (by simp) _ | with_reducible refine Below.drew ?_)))).mono ?_; rintro e w' ⟨rfl, z, rfl⟩) | (go_at_call 57; with_reducible refine (W1.out _ (by (repeat (first | with_reducible exact Below.rf _ | with_reducible exact World.below_ext _ _ | with_reducible refine Below.ex ?_ _ | with_reducible refine Below.al ?_ _ | with_reducible refine Below.setCell ?_ (by simp) _ | with_reducible refine Below.drew ?_)))).mono ?_; rintro e w' ⟨rfl, z, rfl⟩))
              exact Or.inr ⟨rfl, HBA.out.trans (Below.mono (by (repeat (first | with_reducible exact Below.rf _ | with_reducible exact World.below_ext _ _ | with_reducible refine Below.ex ?_ _ | with_reducible refine Below.al ?_ _ | with_reducible refine Below.setCell ?_ (by simp) _ | with_reducible refine Below.drew ?_))) HBA.out.size), HQ.out.symm, pickU rfl⟩
            have d5 : (va == a) = false := by simp [h5]
            have HQ : Hid (vrI T q.r q.t path k (i + 1) (pm + 1 - (i + 1)) = vi) := by
              unfold Hid
              rw [if_neg (by simp [h1, h5])] at heq
              exact heq
            clear heq HEQ h1 h2 h3 h4 h5
            go_wp2_with (first | (go_at_call 24; with_reducible refine (A0.out _ (by (repeat (first | with_reducible exact Below.rf _ | with_reducible exact World.below_ext _ _ | with_reducible refine Below.ex ?_ _ | with_reducible refine Below.al ?_ _ | with_reducible refine Below.setCell ?_ (by simp) _ | with_reducible refine Below.drew ?_)))).mono ?_; rintro e w' ⟨rfl, z, rfl⟩) | (go_at_call 24; with_reducible refine (A1.out _ (by (repeat (first | with_reducible exact Below.rf _ | with_reducible exact World.below_ext _ _ | with_reducible refine Below.ex ?_ _ | with_reducible refine Below.al ?_ _ | with_reducible refine Below.setCell ?_ (by simp) _ | with_reducible refine Below.drew ?_)))).mono ?_; rintro e w' ⟨rfl, z, rfl⟩) | (go_at_call 57; with_reducible refine (W0.out _ (by (repeat (first | with_reducible exact Below.rf _ | with_reducible exact World.below_ext _ _ | with_reducible refine Below.ex ?_ _ | with_reducible refine Below.al ?_ _ | with_reducible refine Below.setCell ?_ (by simp) _ | with_reducible refine Below.drew ?_)))).mono ?_; rintro e w' ⟨rfl, z, rfl⟩) | (go_at_call 57; with_reducible refine (W1.out _ (by (repeat (first | with_reducible exact Below.rf _ | with_reducible exact World.below_ext _ _ | with_reducible refine Below.ex ?_ _ | with_reducible refine Below.al ?_ _ | with_reducible refine Below.setCell ?_ (by simp) _ | with_reducible refine Below.drew ?_)))).mono ?_; rintro e w' ⟨rfl, z, rfl⟩))
            go_roundw
            case rel => exact ⟨i + 1, by go_num, by omega, HQ.out, HBI.out.trans (Below.mono (by (repeat (first | with_reducible exact Below.rf _ | with_reducible exact World.below_ext _ _ | with_reducible refine Below.ex ?_ _ | with_reducible refine Below.al ?_ _ | with_reducible refine Below.setCell ?_ (by simp) _ | with_reducible refine Below.drew ?_))) HBI.out.size)⟩
            case measure => (simp [intOf] <;> omega)
            --END 3
          · --BEGIN 4
            have di : decide (q.t + (i : Int) ≤ q.t + (pm : Int)) = false := by simp; omega
            have din : decide (i ≤ pm) = false := by simp; omega
            have HQ : Hid (vrK T q.r q.t path (k + 1) (nb - (k + 1)) = vv) := by
              unfold Hid
              have := HEQ.out
              rw [show pm + 1 - i = 0 by omega, vrI] at heq
              rw [← heq, if_neg (by simp)] at this
              exact this
            clear heq HEQ
            go_wp2
            go_roundw
            case rel => exact ⟨k + 1, by go_num, by omega, HQ.out, HBA.out⟩
            case measure => (simp [intOf] <;> omega)
            --END 4
        --END 2
    · --BEGIN 5
      have dk : decide ((k : Int) < (nb : Int)) = false := by simp; omega
      have dkn : decide (k < nb) = false := by simp; omega
      have HQ : Hid (vv = true) := by
        unfold Hid
        rw [show nb - k = 0 by omega, vrK] at heq
        exact heq.symm
      clear heq
      go_wp2_with (first | (go_at_call 23; refine (RO.out _ (by (repeat (first | with_reducible exact Below.rf _ | with_reducible exact World.below_ext _ _ | with_reducible refine Below.ex ?_ _ | with_reducible refine Below.al ?_ _ | with_reducible refine Below.setCell ?_ (by simp) _ | with_reducible refine Below.drew ?_)))).mono ?_; rintro e w' ⟨rfl, hw'⟩; obtain rfl := hw'.symm))
      exact Or.inl ⟨rfl, HB.out, HQ.out, pickU rfl⟩
      --END 5
end Go.Proofs.Qxb6500716a
