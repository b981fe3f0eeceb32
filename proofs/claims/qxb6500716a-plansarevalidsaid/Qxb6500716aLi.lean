/-
  PlansAreValid: the loop over the other robots, cut out.
-/
import Derived.Test.Qxb6500716aLg
namespace Go.Proofs.Qxb6500716a
open Go.RowKit Go.Maps
set_option linter.unusedSimpArgs false
set_option linter.unusedVariables false
set_option maxRecDepth 20000
set_option maxHeartbeats 4000000
set_option maxRecDepth 1000000 in
set_option maxHeartbeats 400000000 in
theorem ot_loop (w7 : World) (lab labc : Nat → Nat) (d rb fb pn pc : Nat) (Mc : TM) (F : FS) (T : TS) (q : Rq) (gv : Value) (po : Option Addr) (path : List Int)
    (HE7 : E4 w7 lab labc d rb fb Mc F T q gv (.slice po pn pc) path) (hno : ∀ (k j : Nat) (c : Int), k < F.bays.length → (k : Int) ≠ q.r → path[j]? = some c → T.at k (q.t + j) ≠ c) (hsw : ∀ (k j : Nat) (a b : Int), k < F.bays.length → (k : Int) ≠ q.r → path[j]? = some a → path[j + 1]? = some b → a ≠ b → T.at k (q.t + j) = b → T.at k (q.t + (j + 1 : Nat)) ≠ a) (hst : ∀ (k : Nat) (c t : Int), k < F.bays.length → (k : Int) ≠ q.r → path[pn - 1]? = some c → q.t + pn - 1 ≤ t → T.at k t ≠ c) (hpn : path.length = pn) (hln : 1 ≤ pn ∧ pn ≤ 256) (hqt : 0 ≤ q.t ∧ q.t ≤ 2000000000)
    (Q0 : Exit → Act → World → Prop) (x0 x1 x2 x4 x5 x10 x11 x12 x13 x14 x15 x17 x18 x19 x20 x21 x22 x23 x24 x25 x26 x27 x28 x29 x30 x31 x32 x33 x34 x35 x36 x37 x38 x39 x40 x41 x42 x43 x44 x45 x46 x47 x48 x49 x50 x51 x52 x53 x54 x55 x56 x57 x58 x59 x60 x61 x62 x63 x64 x65 x66 x67 x68 x69 x70 x71 x72 x73 x74 x75 x76 x77 x78 x79 x80 x81 x82 x83 x84 x85 x86 x87 x88 x89 x90 x91 x92 x93 x94 x95 x96 x97 x98 x99 x100 x101 x102 x103 x104 x105 x106 x107 x108 x109 x110 x111 x112 x113 x114 x115 x116 x117 x118 x119 x120 x121 x122 x123 x124 x125 x126 x127 x128 x129 x130 x131 x132 x133 x134 x135 x136 x137 x138 x139 x140 x141 x142 x143 x144 x145 x146 x147 x148 x149 x150 x151 x152 x153 x154 x155 x156 x157 x158 x159 x160 x161 x162 x163 x164 x165 x166 x167 x168 x169 x170 x171 x172 x173 x174 x175 x176 x177 x178 x179 x180 x181 x182 x183 x184 x185 x186 x187 x188 x189 x190 x191 x192 x193 x194 x195 x196 x197 x198 x199 x200 x201 x202 x203 x204 x205 x206 x207 x208 x209 x210 x211 x212 x213 x214 x215 x216 x217 x218 x219 x220 x221 x222 x223 x224 x225 x226 x227 x228 x229 x230 x231 x232 x233 x234 x235 x236 x237 x238 x239 x240 x241 x242 x243 x244 x245 x246 x247 x248 x249 x250 x251 x252 x253 x254 x255 x256 x257 x258 x259 x260 x261 x262 x263 x264 x265 x266 x267 x268 x269 x270 x271 x272 x273 x274 x275 x276 x277 : Value)
    (hexit : ∀ (a' : Act) (w'' : World), (Below w7.heap.size w7 w'' ∧ ∃ UOT : Nat → Value, a' = ⟨List.toArray (x0 :: x1 :: UOT 2 :: .pointer (some ⟨d, 0, none⟩) :: x4 :: x5 :: .pointer (some ⟨Mc.t, 0, none⟩) :: .pointer (some ⟨rb, 0, none⟩) :: (.slice po pn pc) :: .int .i64 (pn) :: x10 :: x11 :: x12 :: x13 :: x14 :: x15 :: UOT 16 :: UOT 17 :: UOT 18 :: UOT 19 :: x20 :: x21 :: x22 :: x23 :: x24 :: x25 :: x26 :: x27 :: x28 :: x29 :: x30 :: x31 :: x32 :: x33 :: x34 :: x35 :: x36 :: x37 :: x38 :: x39 :: x40 :: x41 :: x42 :: x43 :: x44 :: x45 :: x46 :: x47 :: x48 :: x49 :: x50 :: x51 :: x52 :: x53 :: x54 :: x55 :: x56 :: x57 :: x58 :: x59 :: x60 :: x61 :: x62 :: x63 :: x64 :: x65 :: x66 :: x67 :: x68 :: x69 :: x70 :: x71 :: x72 :: x73 :: x74 :: x75 :: x76 :: x77 :: x78 :: x79 :: x80 :: x81 :: x82 :: x83 :: x84 :: x85 :: x86 :: x87 :: x88 :: x89 :: x90 :: x91 :: x92 :: x93 :: x94 :: x95 :: x96 :: x97 :: x98 :: x99 :: x100 :: x101 :: x102 :: x103 :: x104 :: x105 :: x106 :: x107 :: x108 :: x109 :: x110 :: x111 :: x112 :: x113 :: x114 :: x115 :: x116 :: x117 :: x118 :: x119 :: x120 :: x121 :: x122 :: x123 :: x124 :: x125 :: x126 :: x127 :: x128 :: x129 :: x130 :: x131 :: x132 :: x133 :: x134 :: x135 :: x136 :: x137 :: x138 :: x139 :: x140 :: x141 :: x142 :: x143 :: x144 :: x145 :: x146 :: x147 :: x148 :: x149 :: x150 :: x151 :: x152 :: x153 :: x154 :: x155 :: x156 :: x157 :: x158 :: x159 :: x160 :: x161 :: x162 :: x163 :: x164 :: x165 :: x166 :: x167 :: x168 :: x169 :: x170 :: x171 :: x172 :: x173 :: x174 :: x175 :: x176 :: x177 :: x178 :: x179 :: x180 :: x181 :: x182 :: x183 :: x184 :: x185 :: UOT 186 :: UOT 187 :: UOT 188 :: UOT 189 :: UOT 190 :: UOT 191 :: UOT 192 :: UOT 193 :: UOT 194 :: UOT 195 :: UOT 196 :: UOT 197 :: UOT 198 :: UOT 199 :: UOT 200 :: UOT 201 :: UOT 202 :: UOT 203 :: UOT 204 :: UOT 205 :: UOT 206 :: UOT 207 :: UOT 208 :: UOT 209 :: UOT 210 :: UOT 211 :: UOT 212 :: UOT 213 :: UOT 214 :: UOT 215 :: UOT 216 :: UOT 217 :: UOT 218 :: UOT 219 :: UOT 220 :: UOT 221 :: UOT 222 :: UOT 223 :: UOT 224 :: UOT 225 :: UOT 226 :: UOT 227 :: UOT 228 :: UOT 229 :: UOT 230 :: UOT 231 :: UOT 232 :: UOT 233 :: UOT 234 :: UOT 235 :: UOT 236 :: UOT 237 :: UOT 238 :: UOT 239 :: UOT 240 :: UOT 241 :: UOT 242 :: UOT 243 :: UOT 244 :: UOT 245 :: UOT 246 :: UOT 247 :: UOT 248 :: UOT 249 :: UOT 250 :: UOT 251 :: UOT 252 :: UOT 253 :: UOT 254 :: UOT 255 :: UOT 256 :: UOT 257 :: UOT 258 :: UOT 259 :: UOT 260 :: UOT 261 :: UOT 262 :: UOT 263 :: UOT 264 :: UOT 265 :: UOT 266 :: UOT 267 :: UOT 268 :: UOT 269 :: UOT 270 :: UOT 271 :: UOT 272 :: UOT 273 :: UOT 274 :: UOT 275 :: UOT 276 :: x277 :: []), []⟩) → Q0 (.exit 8) a' w'') :
    Code.wp Try.prog ((Try.f4.body.bind (findBlock 8)).getD .skip) Q0 ⟨List.toArray (x0 :: x1 :: x2 :: .pointer (some ⟨d, 0, none⟩) :: x4 :: x5 :: .pointer (some ⟨Mc.t, 0, none⟩) :: .pointer (some ⟨rb, 0, none⟩) :: (.slice po pn pc) :: .int .i64 (pn) :: x10 :: x11 :: x12 :: x13 :: x14 :: x15 :: .int .i64 (0) :: x17 :: x18 :: x19 :: x20 :: x21 :: x22 :: x23 :: x24 :: x25 :: x26 :: x27 :: x28 :: x29 :: x30 :: x31 :: x32 :: x33 :: x34 :: x35 :: x36 :: x37 :: x38 :: x39 :: x40 :: x41 :: x42 :: x43 :: x44 :: x45 :: x46 :: x47 :: x48 :: x49 :: x50 :: x51 :: x52 :: x53 :: x54 :: x55 :: x56 :: x57 :: x58 :: x59 :: x60 :: x61 :: x62 :: x63 :: x64 :: x65 :: x66 :: x67 :: x68 :: x69 :: x70 :: x71 :: x72 :: x73 :: x74 :: x75 :: x76 :: x77 :: x78 :: x79 :: x80 :: x81 :: x82 :: x83 :: x84 :: x85 :: x86 :: x87 :: x88 :: x89 :: x90 :: x91 :: x92 :: x93 :: x94 :: x95 :: x96 :: x97 :: x98 :: x99 :: x100 :: x101 :: x102 :: x103 :: x104 :: x105 :: x106 :: x107 :: x108 :: x109 :: x110 :: x111 :: x112 :: x113 :: x114 :: x115 :: x116 :: x117 :: x118 :: x119 :: x120 :: x121 :: x122 :: x123 :: x124 :: x125 :: x126 :: x127 :: x128 :: x129 :: x130 :: x131 :: x132 :: x133 :: x134 :: x135 :: x136 :: x137 :: x138 :: x139 :: x140 :: x141 :: x142 :: x143 :: x144 :: x145 :: x146 :: x147 :: x148 :: x149 :: x150 :: x151 :: x152 :: x153 :: x154 :: x155 :: x156 :: x157 :: x158 :: x159 :: x160 :: x161 :: x162 :: x163 :: x164 :: x165 :: x166 :: x167 :: x168 :: x169 :: x170 :: x171 :: x172 :: x173 :: x174 :: x175 :: x176 :: x177 :: x178 :: x179 :: x180 :: x181 :: x182 :: x183 :: x184 :: x185 :: x186 :: x187 :: x188 :: x189 :: x190 :: x191 :: x192 :: x193 :: x194 :: x195 :: x196 :: x197 :: x198 :: x199 :: x200 :: x201 :: x202 :: x203 :: x204 :: x205 :: x206 :: x207 :: x208 :: x209 :: x210 :: x211 :: x212 :: x213 :: x214 :: x215 :: x216 :: x217 :: x218 :: x219 :: x220 :: x221 :: x222 :: x223 :: x224 :: x225 :: x226 :: x227 :: x228 :: x229 :: x230 :: x231 :: x232 :: x233 :: x234 :: x235 :: x236 :: x237 :: x238 :: x239 :: x240 :: x241 :: x242 :: x243 :: x244 :: x245 :: x246 :: x247 :: x248 :: x249 :: x250 :: x251 :: x252 :: x253 :: x254 :: x255 :: x256 :: x257 :: x258 :: x259 :: x260 :: x261 :: x262 :: x263 :: x264 :: x265 :: x266 :: x267 :: x268 :: x269 :: x270 :: x271 :: x272 :: x273 :: x274 :: x275 :: x276 :: x277 :: []), []⟩ w7 := by
  conv => arg 2; whnf
  have HE7 := hid HE7
  have HNO := hid hno
  have HSW := hid hsw
  have HST := hid hst
  have HPN := hid hpn
  have hnbl := HE7.out.f.ok.nb.2
  obtain ⟨nb, hnb⟩ : ∃ y, F.bays.length = y := ⟨_, rfl⟩
  rw [hnb] at hnbl HNO HSW HST
  have HNB := hid hnb
  have hbs := HE7.out.c.bd.base
  clear hno hsw hst hpn hnb
  go_loopw [16] (fun v wr => ∃ k : Nat, v = .int .i64 (k) ∧ k ≤ nb ∧ Below w7.heap.size w7 wr) (fun v _ => nb - (intOf v).toNat)
  case atStart => exact ⟨0, rfl, Nat.zero_le _, Below.rf _⟩
  case round =>
    obtain ⟨k, rfl, hk, hB⟩ := hrel
    have HB := hid hB
    have HE := hid (HE7.out.below hB)
    clear hB
    have e0 := HE.out.d0
    have hdx := HE.out.dl
    have r0 : (wr).cell? ⟨rb, 0, none⟩ = some (.int .i64 (q.r)) := HE.out.r.is 0 (by omega)
    have r2 : (wr).cell? ⟨rb, 2, none⟩ = some (.int .i64 (q.t)) := HE.out.r.is 2 (by omega)
    have hrx := HE.out.r.lt
    have RO : Hid (∀ w' : World, Below wr.heap.size wr w' → Calls Try.prog 23 #[.pointer (some ⟨fb, 0, none⟩)] w' fun e w'' => e = .returned (.int .i64 (nb)) ∧ w'' = w') := fun w' h => by
      have := robots_any fb F lab w' (HE.out.below h).f
      rw [HNB.out] at this
      exact this
    by_cases hkn : k < nb
    · have dkb : decide ((k : Int) < (nb : Int)) = true := by simp; omega
      have dkbn : decide (k < nb) = true := by simp; omega
      by_cases hkr : (k : Int) = q.r
      · have dr : ((k : Int) == q.r) = true := by simp [hkr]
        clear hkr
        go_wp2_with (first | (go_at_call 23; refine (RO.out _ (by (repeat (first | with_reducible exact Below.rf _ | with_reducible exact World.below_ext _ _ | with_reducible refine Below.ex ?_ _ | with_reducible refine Below.al ?_ _ | with_reducible refine Below.setCell ?_ (by simp) _ | with_reducible refine Below.drew ?_)))).mono ?_; rintro e w' ⟨rfl, hw'⟩; obtain rfl := hw'.symm))
        go_roundw
        case rel => exact ⟨k + 1, by go_num, by omega, HB.out⟩
        case measure => (simp [intOf] <;> omega)
      · have dr : ((k : Int) == q.r) = false := by simp [hkr]
        have HKR := hid hkr
        clear hkr
        go_wp2_with (first | (go_at_call 23; refine (RO.out _ (by (repeat (first | with_reducible exact Below.rf _ | with_reducible exact World.below_ext _ _ | with_reducible refine Below.ex ?_ _ | with_reducible refine Below.al ?_ _ | with_reducible refine Below.setCell ?_ (by simp) _ | with_reducible refine Below.drew ?_)))).mono ?_; rintro e w' ⟨rfl, hw'⟩; obtain rfl := hw'.symm))
        obtain ⟨wo, rfl⟩ : ∃ y, y = wr := ⟨_, rfl⟩
        go_loopw [17] (fun v wr => ∃ j : Nat, v = .int .i64 (j) ∧ j ≤ pn ∧ Below w7.heap.size w7 wr) (fun v _ => pn - (intOf v).toNat)
        case atStart => exact ⟨0, rfl, Nat.zero_le _, HB.out⟩
        case round =>
          clear HB HE e0 hdx r0 r2 hrx RO
          obtain ⟨j, rfl, hj, hB⟩ := hrel
          have HB := hid hB
          have HE := hid (HE7.out.below hB)
          clear hB
          have e0 := HE.out.d0
          have hdx := HE.out.dl
          have r0 : (wr).cell? ⟨rb, 0, none⟩ = some (.int .i64 (q.r)) := HE.out.r.is 0 (by omega)
          have r2 : (wr).cell? ⟨rb, 2, none⟩ = some (.int .i64 (q.t)) := HE.out.r.is 2 (by omega)
          have hrx := HE.out.r.lt
          by_cases hjn : j < pn
          · --BEGIN 1
            have dj : decide ((j : Int) < (pn : Int)) = true := by simp; omega
            have djn : decide (j < pn) = true := by simp; omega
            have hjl : j < path.length := by rw [HPN.out]; exact hjn
            have hg : path[j]? = some path[j] := List.getElem?_eq_getElem hjl
            generalize path[j] = c at *
            obtain ⟨bk, ba, n', cap', hv, hbl, -, cq⟩ := HE.out.pp.row j _ hg
            have hno := HNO.out k j c hkn HKR.out hg
            obtain ⟨v0, hvv0⟩ : ∃ y, T.at k (q.t + j) = y := ⟨_, rfl⟩
            rw [hvv0] at hno
            have d0 : (v0 == c) = false := by simp [hno]
            by_cases hj0 : j = 0
            · --BEGIN 2
              simp only [Value.slice.injEq] at hv
              obtain ⟨rfl, -, -⟩ := hv
              have A0 : Hid (∀ w' : World, Below wr.heap.size wr w' → Calls Try.prog 24 #[.pointer (some ⟨Mc.t, 0, none⟩), .int .i64 (k), .int .i64 (q.t + (j : Int))] w' fun e w'' => e = .returned (.int .i64 (v0)) ∧ ∃ z, w'' = w'.ext z) := fun w' h => by
                have := at_any Mc T labc k (q.t + (j : Int)) w' (HE.out.below h).c (by unfold I64; omega) (by unfold I64; omega)
                rw [hvv0] at this
                exact this
              have dz : decide ((0 : Int) < (j : Int)) = false := by simp; omega
              have dzn : decide (0 < j) = false := by simp; omega
              have HJ0 := hid hj0
              clear hno hg hvv0 hjl hj0
              go_wp2
              first | with_reducible refine wp_region_ext2 (by kernel_rfl) (by kernel_rfl) ?_ | refine wp_region_ext (by kernel_rfl) (by kernel_rfl) ?_
              repeat (go_big_quiet_step ((go_at_call 24; with_reducible exact Calls.ext_of (A0.out _ (by (repeat (first | with_reducible exact Below.rf _ | with_reducible exact World.below_ext _ _ | with_reducible refine Below.ex ?_ _ | with_reducible refine Below.al ?_ _ | with_reducible refine Below.setCell ?_ (by simp) _ | with_reducible refine Below.drew ?_)))))))
              refine wpQuiet_nil ?_
              rintro w3 ⟨z, hw2⟩
              have hb3 : Below wr.heap.size wr w3 := by rw [hw2]; exact World.below_ext wr z
              have HB3 : Hid (Below w7.heap.size w7 w3) := HB.out.trans (hb3.mono HB.out.size)
              clear hw2 hb3
              go_wp2
              first | with_reducible refine wp_region_ext2 (by kernel_rfl) (by kernel_rfl) ?_ | refine wp_region_ext (by kernel_rfl) (by kernel_rfl) ?_
              repeat (go_big_quiet_step (fail))
              refine wpQuiet_nil ?_
              rintro w4 ⟨z, hw2⟩
              have HB4 : Hid (Below w7.heap.size w7 w4) := HB3.out.trans (Below.mono (by rw [hw2]; exact World.below_ext w3 _) HB3.out.size)
              clear hw2
              go_wp2
              go_roundw
              case rel => exact ⟨j + 1, by go_num, by omega, HB4.out⟩
              case measure => (simp [intOf] <;> omega)
              --END 2
            · --BEGIN 3
              obtain ⟨i, rfl⟩ : ∃ i, j = i + 1 := ⟨j - 1, by omega⟩
              have hil : i < path.length := by omega
              have hg1 : path[i]? = some path[i] := List.getElem?_eq_getElem hil
              generalize path[i] = c1 at *
              obtain ⟨bk2, ba2, n2', cap2', hv2, -, -, cq1⟩ := HE.out.pp.row i _ hg1
              have hv3 := hv.symm.trans hv2
              simp only [Value.slice.injEq, Option.some.injEq, Addr.mk.injEq] at hv hv3
              obtain ⟨⟨rfl, rfl, -⟩, -, -⟩ := hv3
              obtain ⟨rfl, -, -⟩ := hv
              have hsw := HSW.out k i c1 c hkn HKR.out hg1 hg
              obtain ⟨v1, hvv1⟩ : ∃ y, T.at k (q.t + i) = y := ⟨_, rfl⟩
              rw [hvv1, hvv0] at hsw
              have A1 : Hid (∀ w' : World, Below wr.heap.size wr w' → Calls Try.prog 24 #[.pointer (some ⟨Mc.t, 0, none⟩), .int .i64 (k), .int .i64 (q.t + (i : Int))] w' fun e w'' => e = .returned (.int .i64 (v1)) ∧ ∃ z, w'' = w'.ext z) := fun w' h => by
                have := at_any Mc T labc k (q.t + (i : Int)) w' (HE.out.below h).c (by unfold I64; omega) (by unfold I64; omega)
                rw [hvv1] at this
                exact this
              rw [Int.natCast_add, Int.natCast_one] at hvv0
              have A0 : Hid (∀ w' : World, Below wr.heap.size wr w' → Calls Try.prog 24 #[.pointer (some ⟨Mc.t, 0, none⟩), .int .i64 (k), .int .i64 (q.t + ((i : Int) + 1))] w' fun e w'' => e = .returned (.int .i64 (v0)) ∧ ∃ z, w'' = w'.ext z) := fun w' h => by
                have := at_any Mc T labc k (q.t + ((i : Int) + 1)) w' (HE.out.below h).c (by unfold I64; omega) (by unfold I64; omega)
                rw [hvv0] at this
                exact this
              have hvv2 : T.at k (q.t + ((i : Int) + 1) - 1) = v1 := by rw [← hvv1]; congr 1; omega
              obtain ⟨v2, hv12⟩ : ∃ y, y = v1 := ⟨_, rfl⟩
              rw [← hv12] at hvv2
              have A2 : Hid (∀ w' : World, Below wr.heap.size wr w' → Calls Try.prog 24 #[.pointer (some ⟨Mc.t, 0, none⟩), .int .i64 (k), .int .i64 (q.t + ((i : Int) + 1) - 1)] w' fun e w'' => e = .returned (.int .i64 (v2)) ∧ ∃ z, w'' = w'.ext z) := fun w' h => by
                have := at_any Mc T labc k (q.t + ((i : Int) + 1) - 1) w' (HE.out.below h).c (by unfold I64; omega) (by unfold I64; omega)
                rw [hvv2] at this
                exact this
              rw [hv12] at A2
              clear hv12 hvv2
              clear hv2 hno hg hvv0 hvv1 hjl hil hg1 hj0
              by_cases hcc : c = c1
              · have d1 : (c != c1) = false := by simp [hcc]
                clear hsw hcc
                go_wp2
                first | with_reducible refine wp_region_ext2 (by kernel_rfl) (by kernel_rfl) ?_ | refine wp_region_ext (by kernel_rfl) (by kernel_rfl) ?_
                repeat (go_big_quiet_step ((go_at_call 24; with_reducible exact Calls.ext_of (A0.out _ (by (repeat (first | with_reducible exact Below.rf _ | with_reducible exact World.below_ext _ _ | with_reducible refine Below.ex ?_ _ | with_reducible refine Below.al ?_ _ | with_reducible refine Below.setCell ?_ (by simp) _ | with_reducible refine Below.drew ?_)))))))
                refine wpQuiet_nil ?_
                rintro w3 ⟨z, hw2⟩
                have hb3 : Below wr.heap.size wr w3 := by rw [hw2]; exact World.below_ext wr z
                have HB3 : Hid (Below w7.heap.size w7 w3) := HB.out.trans (hb3.mono HB.out.size)
                have cq' := (World.cell?_of_block (hb3.block bk hbl)).trans cq
                have cq1' := (World.cell?_of_block (hb3.block bk hbl)).trans cq1
                have hbl' := Nat.lt_of_lt_of_le hbl hb3.size
                have B0 := hid (fun (w' : World) (h : Below w3.heap.size w3 w') => A0.out w' (hb3.trans (h.mono hb3.size)))
                have B1 := hid (fun (w' : World) (h : Below w3.heap.size w3 w') => A1.out w' (hb3.trans (h.mono hb3.size)))
                have B2 := hid (fun (w' : World) (h : Below w3.heap.size w3 w') => A2.out w' (hb3.trans (h.mono hb3.size)))
                clear hw2 hb3 A0 A1 A2 cq cq1 hbl
                go_wp2
                first | with_reducible refine wp_region_ext2 (by kernel_rfl) (by kernel_rfl) ?_ | refine wp_region_ext (by kernel_rfl) (by kernel_rfl) ?_
                repeat (go_big_quiet_step (fail))
                refine wpQuiet_nil ?_
                rintro w4 ⟨z, hw2⟩
                have HB4 : Hid (Below w7.heap.size w7 w4) := HB3.out.trans (Below.mono (by rw [hw2]; exact World.below_ext w3 _) HB3.out.size)
                clear hw2
                go_wp2
                go_roundw
                case rel => exact ⟨i + 2, by go_num, by omega, HB4.out⟩
                case measure => (simp [intOf] <;> omega)
              · have d1 : (c != c1) = true := by simp [hcc]
                by_cases hvc : v1 = c
                · have d2 : (v1 == c) = true := by simp [hvc]
                  have hne := hsw (fun e => hcc e.symm) hvc
                  have d3 : (v0 == c1) = false := by simp [hne]
                  clear hsw hcc hvc hne
                  go_wp2
                  first | with_reducible refine wp_region_ext2 (by kernel_rfl) (by kernel_rfl) ?_ | refine wp_region_ext (by kernel_rfl) (by kernel_rfl) ?_
                  repeat (go_big_quiet_step ((go_at_call 24; with_reducible exact Calls.ext_of (A0.out _ (by (repeat (first | with_reducible exact Below.rf _ | with_reducible exact World.below_ext _ _ | with_reducible refine Below.ex ?_ _ | with_reducible refine Below.al ?_ _ | with_reducible refine Below.setCell ?_ (by simp) _ | with_reducible refine Below.drew ?_)))))))
                  refine wpQuiet_nil ?_
                  rintro w3 ⟨z, hw2⟩
                  have hb3 : Below wr.heap.size wr w3 := by rw [hw2]; exact World.below_ext wr z
                  have HB3 : Hid (Below w7.heap.size w7 w3) := HB.out.trans (hb3.mono HB.out.size)
                  have cq' := (World.cell?_of_block (hb3.block bk hbl)).trans cq
                  have cq1' := (World.cell?_of_block (hb3.block bk hbl)).trans cq1
                  have hbl' := Nat.lt_of_lt_of_le hbl hb3.size
                  have B0 := hid (fun (w' : World) (h : Below w3.heap.size w3 w') => A0.out w' (hb3.trans (h.mono hb3.size)))
                  have B1 := hid (fun (w' : World) (h : Below w3.heap.size w3 w') => A1.out w' (hb3.trans (h.mono hb3.size)))
                  have B2 := hid (fun (w' : World) (h : Below w3.heap.size w3 w') => A2.out w' (hb3.trans (h.mono hb3.size)))
                  clear hw2 hb3 A0 A1 A2 cq cq1 hbl
                  go_wp2
                  first | with_reducible refine wp_region_ext2 (by kernel_rfl) (by kernel_rfl) ?_ | refine wp_region_ext (by kernel_rfl) (by kernel_rfl) ?_
                  repeat (go_big_quiet_step (first | (go_at_call 24; with_reducible exact Calls.ext_of (B0.out _ (by (repeat (first | with_reducible exact Below.rf _ | with_reducible exact World.below_ext _ _ | with_reducible refine Below.ex ?_ _ | with_reducible refine Below.al ?_ _ | with_reducible refine Below.setCell ?_ (by simp) _ | with_reducible refine Below.drew ?_))))) | (go_at_call 24; with_reducible exact Calls.ext_of (B1.out _ (by (repeat (first | with_reducible exact Below.rf _ | with_reducible exact World.below_ext _ _ | with_reducible refine Below.ex ?_ _ | with_reducible refine Below.al ?_ _ | with_reducible refine Below.setCell ?_ (by simp) _ | with_reducible refine Below.drew ?_))))) | (go_at_call 24; with_reducible exact Calls.ext_of (B2.out _ (by (repeat (first | with_reducible exact Below.rf _ | with_reducible exact World.below_ext _ _ | with_reducible refine Below.ex ?_ _ | with_reducible refine Below.al ?_ _ | with_reducible refine Below.setCell ?_ (by simp) _ | with_reducible refine Below.drew ?_)))))))
                  refine wpQuiet_nil ?_
                  rintro w4 ⟨z, hw2⟩
                  have HB4 : Hid (Below w7.heap.size w7 w4) := HB3.out.trans (Below.mono (by rw [hw2]; exact World.below_ext w3 _) HB3.out.size)
                  clear hw2
                  go_wp2
                  go_roundw
                  case rel => exact ⟨i + 2, by go_num, by omega, HB4.out⟩
                  case measure => (simp [intOf] <;> omega)
                · have d2 : (v1 == c) = false := by simp [hvc]
                  clear hsw hcc hvc
                  go_wp2
                  first | with_reducible refine wp_region_ext2 (by kernel_rfl) (by kernel_rfl) ?_ | refine wp_region_ext (by kernel_rfl) (by kernel_rfl) ?_
                  repeat (go_big_quiet_step ((go_at_call 24; with_reducible exact Calls.ext_of (A0.out _ (by (repeat (first | with_reducible exact Below.rf _ | with_reducible exact World.below_ext _ _ | with_reducible refine Below.ex ?_ _ | with_reducible refine Below.al ?_ _ | with_reducible refine Below.setCell ?_ (by simp) _ | with_reducible refine Below.drew ?_)))))))
                  refine wpQuiet_nil ?_
                  rintro w3 ⟨z, hw2⟩
                  have hb3 : Below wr.heap.size wr w3 := by rw [hw2]; exact World.below_ext wr z
                  have HB3 : Hid (Below w7.heap.size w7 w3) := HB.out.trans (hb3.mono HB.out.size)
                  have cq' := (World.cell?_of_block (hb3.block bk hbl)).trans cq
                  have cq1' := (World.cell?_of_block (hb3.block bk hbl)).trans cq1
                  have hbl' := Nat.lt_of_lt_of_le hbl hb3.size
                  have B0 := hid (fun (w' : World) (h : Below w3.heap.size w3 w') => A0.out w' (hb3.trans (h.mono hb3.size)))
                  have B1 := hid (fun (w' : World) (h : Below w3.heap.size w3 w') => A1.out w' (hb3.trans (h.mono hb3.size)))
                  have B2 := hid (fun (w' : World) (h : Below w3.heap.size w3 w') => A2.out w' (hb3.trans (h.mono hb3.size)))
                  clear hw2 hb3 A0 A1 A2 cq cq1 hbl
                  go_wp2
                  first | with_reducible refine wp_region_ext2 (by kernel_rfl) (by kernel_rfl) ?_ | refine wp_region_ext (by kernel_rfl) (by kernel_rfl) ?_
                  repeat (go_big_quiet_step (first | (go_at_call 24; with_reducible exact Calls.ext_of (B1.out _ (by (repeat (first | with_reducible exact Below.rf _ | with_reducible exact World.below_ext _ _ | with_reducible refine Below.ex ?_ _ | with_reducible refine Below.al ?_ _ | with_reducible refine Below.setCell ?_ (by simp) _ | with_reducible refine Below.drew ?_))))) | (go_at_call 24; with_reducible exact Calls.ext_of (B2.out _ (by (repeat (first | with_reducible exact Below.rf _ | with_reducible exact World.below_ext _ _ | with_reducible refine Below.ex ?_ _ | with_reducible refine Below.al ?_ _ | with_reducible refine Below.setCell ?_ (by simp) _ | with_reducible refine Below.drew ?_)))))))
                  refine wpQuiet_nil ?_
                  rintro w4 ⟨z, hw2⟩
                  have HB4 : Hid (Below w7.heap.size w7 w4) := HB3.out.trans (Below.mono (by rw [hw2]; exact World.below_ext w3 _) HB3.out.size)
                  clear hw2
                  go_wp2
                  go_roundw
                  case rel => exact ⟨i + 2, by go_num, by omega, HB4.out⟩
                  case measure => (simp [intOf] <;> omega)
              --END 3
            --END 1
          · --BEGIN 4
            have dj : decide ((j : Int) < (pn : Int)) = false := by simp; omega
            have djn : decide (j < pn) = false := by simp; omega
            go_wp2
            obtain ⟨wo2, rfl⟩ : ∃ y, y = wr := ⟨_, rfl⟩
            go_loopw [19] (fun v wr => ∃ t : Int, v = .int .i64 (t) ∧ q.t + pn - 1 ≤ t ∧ t ≤ q.t + pn + (T.base : Int) + 258 ∧ Below w7.heap.size w7 wr) (fun v _ => ((T.base : Int) + 260 - intOf v).toNat)
            case atStart => exact ⟨_, by go_num, by omega, by omega, HB.out⟩
            case round =>
              clear HB HE e0 hdx r0 r2 hrx
              obtain ⟨t, rfl, ht1, ht2, hB⟩ := hrel
              have HB := hid hB
              have HE := hid (HE7.out.below hB)
              clear hB
              have e0 := HE.out.d0
              have hdx := HE.out.dl
              have r0 : (wr).cell? ⟨rb, 0, none⟩ = some (.int .i64 (q.r)) := HE.out.r.is 0 (by omega)
              have r2 : (wr).cell? ⟨rb, 2, none⟩ = some (.int .i64 (q.t)) := HE.out.r.is 2 (by omega)
              have hrx := HE.out.r.lt
              have EN : Hid (∀ w' : World, Below wr.heap.size wr w' → Calls Try.prog 25 #[.pointer (some ⟨Mc.t, 0, none⟩)] w' fun e w'' => e = .returned (.int .i64 ((T.base : Int) + 256)) ∧ w'' = w') := fun w' h => end_any Mc T labc w' (HE.out.below h).c
              by_cases hte : t ≤ (T.base : Int) + 257
              · have dt : decide (t ≤ (T.base : Int) + 256 + 1) = true := by simp; omega
                have hjl : pn - 1 < path.length := by rw [HPN.out]; omega
                have hg : path[pn - 1]? = some path[pn - 1] := List.getElem?_eq_getElem hjl
                generalize path[pn - 1] = c at *
                obtain ⟨bk, ba, n', cap', hv, hbl, -, cq⟩ := HE.out.pp.row (pn - 1) _ hg
                simp only [Value.slice.injEq] at hv
                obtain ⟨rfl, -, -⟩ := hv
                have hno := HST.out k c t hkn HKR.out hg ht1
                obtain ⟨v0, hvv0⟩ : ∃ y, T.at k t = y := ⟨_, rfl⟩
                rw [hvv0] at hno
                have d0 : (v0 == c) = false := by simp [hno]
                have A0 : Hid (∀ w' : World, Below wr.heap.size wr w' → Calls Try.prog 24 #[.pointer (some ⟨Mc.t, 0, none⟩), .int .i64 (k), .int .i64 (t)] w' fun e w'' => e = .returned (.int .i64 (v0)) ∧ ∃ z, w'' = w'.ext z) := fun w' h => by
                  have := at_any Mc T labc k (t) w' (HE.out.below h).c (by unfold I64; omega) (by unfold I64; omega)
                  rw [hvv0] at this
                  exact this
                obtain ⟨pm, hpm⟩ : ∃ pm, pn - 1 = pm := ⟨_, rfl⟩
                rw [hpm] at cq
                have hpi : (pn : Int) - 1 = (pm : Int) := by omega
                have dpm : decide ((pm : Int) < (pn : Int)) = true := by simp; omega
                have dpmn : decide (pm < pn) = true := by simp; omega
                clear hno hg hvv0 hjl hpm
                go_wp2_with (first | (go_at_call 25; refine (EN.out _ (by (repeat (first | with_reducible exact Below.rf _ | with_reducible exact World.below_ext _ _ | with_reducible refine Below.ex ?_ _ | with_reducible refine Below.al ?_ _ | with_reducible refine Below.setCell ?_ (by simp) _ | with_reducible refine Below.drew ?_)))).mono ?_; rintro e w' ⟨rfl, hw'⟩; obtain rfl := hw'.symm))
                first | with_reducible refine wp_region_ext2 (by kernel_rfl) (by kernel_rfl) ?_ | refine wp_region_ext (by kernel_rfl) (by kernel_rfl) ?_
                repeat (go_big_quiet_step ((go_at_call 24; with_reducible exact Calls.ext_of (A0.out _ (by (repeat (first | with_reducible exact Below.rf _ | with_reducible exact World.below_ext _ _ | with_reducible refine Below.ex ?_ _ | with_reducible refine Below.al ?_ _ | with_reducible refine Below.setCell ?_ (by simp) _ | with_reducible refine Below.drew ?_)))))))
                refine wpQuiet_nil ?_
                rintro _ ⟨z, rfl⟩
                go_wp2
                go_roundw
                case rel => exact ⟨t + 1, by go_num, by omega, by omega, HB.out.trans (Below.mono (by (repeat (first | with_reducible exact Below.rf _ | with_reducible exact World.below_ext _ _ | with_reducible refine Below.ex ?_ _ | with_reducible refine Below.al ?_ _ | with_reducible refine Below.setCell ?_ (by simp) _ | with_reducible refine Below.drew ?_))) HB.out.size)⟩
                case measure => (simp [intOf] <;> omega)
              · have dt : decide (t ≤ (T.base : Int) + 256 + 1) = false := by simp; omega
                go_wp2_with (first | (go_at_call 25; refine (EN.out _ (by (repeat (first | with_reducible exact Below.rf _ | with_reducible exact World.below_ext _ _ | with_reducible refine Below.ex ?_ _ | with_reducible refine Below.al ?_ _ | with_reducible refine Below.setCell ?_ (by simp) _ | with_reducible refine Below.drew ?_)))).mono ?_; rintro e w' ⟨rfl, hw'⟩; obtain rfl := hw'.symm))
                go_roundw
                case rel => exact ⟨k + 1, by go_num, by omega, HB.out⟩
                case measure => (simp [intOf] <;> omega)
            --END 4
    · have dkb : decide ((k : Int) < (nb : Int)) = false := by simp; omega
      have dkbn : decide (k < nb) = false := by simp; omega
      go_wp2_with (first | (go_at_call 23; refine (RO.out _ (by (repeat (first | with_reducible exact Below.rf _ | with_reducible exact World.below_ext _ _ | with_reducible refine Below.ex ?_ _ | with_reducible refine Below.al ?_ _ | with_reducible refine Below.setCell ?_ (by simp) _ | with_reducible refine Below.drew ?_)))).mono ?_; rintro e w' ⟨rfl, hw'⟩; obtain rfl := hw'.symm))
      exact ⟨HB.out, pickU rfl⟩
end Go.Proofs.Qxb6500716a
