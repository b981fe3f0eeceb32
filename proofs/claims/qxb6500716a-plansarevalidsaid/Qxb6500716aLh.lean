/-
  PlansAreValid: the loop over the goals, cut out.
-/
import Derived.Test.Qxb6500716aLg
namespace Go.Proofs.Qxb6500716a
open Go.RowKit Go.Maps
set_option linter.unusedSimpArgs false
set_option linter.unusedVariables false
set_option maxRecDepth 20000
set_option maxHeartbeats 4000000
/-- The goals can be met one behind the other. -/
def GMt (path : List Int) (gl : List (Int × Int)) (s : Nat → Nat) : Prop :=
  ∀ (j : Nat) (g : Int × Int), gl[j]? = some g → 0 ≤ g.2 ∧ (∀ i g', i + 1 = j → gl[i]? = some g' → s i + g'.2.toNat ≤ s j) ∧ s j + g.2.toNat < path.length ∧ ∀ b, s j ≤ b → b ≤ s j + g.2.toNat → path[b]? = some g.1
theorem GMt.all {path : List Int} {gl : List (Int × Int)} {s : Nat → Nat} (h : GMt path gl s) {j : Nat} {g : Int × Int} (hg : gl[j]? = some g) : allC g.1 ((path.drop (s j)).take (g.2.toNat + 1)) = true := by
  obtain ⟨-, -, h3, h4⟩ := h j g hg
  refine allC_yes _ _ (fun x hx => ?_)
  obtain ⟨i, hi⟩ := List.mem_iff_getElem?.1 hx
  have hil : i < g.2.toNat + 1 := by
    have := (List.getElem?_eq_some_iff.1 hi).1
    simp at this
    omega
  rw [List.getElem?_take, if_pos hil, List.getElem?_drop, h4 (s j + i) (by omega) (by omega)] at hi
  simp only [Option.some.injEq] at hi
  exact hi.symm
set_option maxRecDepth 1000000 in
set_option maxHeartbeats 400000000 in
theorem go_loop (w7 : World) (lab labc : Nat → Nat) (d rb fb pn pc gn gc : Nat) (Mc : TM) (F : FS) (T : TS) (q : Rq) (go po : Option Addr) (path : List Int) (s : Nat → Nat)
    (HE7 : E4 w7 lab labc d rb fb Mc F T q (.slice go gn gc) (.slice po pn pc) path) (hmt : GMt path q.gl s) (hpn : path.length = pn) (hln : 1 ≤ pn ∧ pn ≤ 256) (hgn : q.gl.length = gn) (hgl : gn ≤ 300)
    (Q0 : Exit → Act → World → Prop) (x0 x1 x2 x3 x4 x5 x6 x7 x10 x11 x12 x14 x15 x16 x17 x18 x19 x20 x21 x22 x23 x24 x25 x26 x27 x28 x29 x30 x31 x32 x33 x34 x35 x36 x37 x38 x39 x40 x41 x42 x43 x44 x45 x46 x47 x48 x49 x50 x51 x52 x53 x54 x55 x56 x57 x58 x59 x60 x61 x62 x63 x64 x65 x66 x67 x68 x69 x70 x71 x72 x73 x74 x75 x76 x77 x78 x79 x80 x81 x82 x83 x84 x85 x86 x87 x88 x89 x90 x91 x92 x93 x94 x95 x96 x97 x98 x99 x100 x101 x102 x103 x104 x105 x106 x107 x108 x109 x110 x111 x112 x113 x114 x115 x116 x117 x118 x119 x120 x121 x122 x123 x124 x125 x126 x127 x128 x129 x130 x131 x132 x133 x134 x135 x136 x137 x138 x139 x140 x141 x142 x143 x144 x145 x146 x150 x151 x152 x153 x154 x155 x156 x157 x158 x159 x160 x161 x162 x163 x164 x165 x166 x167 x168 x169 x170 x171 x172 x173 x174 x175 x176 x177 x178 x179 x180 x181 x182 x183 x184 x185 x186 x187 x188 x189 x190 x191 x192 x193 x194 x195 x196 x197 x198 x199 x200 x201 x202 x203 x204 x205 x206 x207 x208 x209 x210 x211 x212 x213 x214 x215 x216 x217 x218 x219 x220 x221 x222 x223 x224 x225 x226 x227 x228 x229 x230 x231 x232 x233 x234 x235 x236 x237 x238 x239 x240 x241 x242 x243 x244 x245 x246 x247 x248 x249 x250 x251 x252 x253 x254 x255 x256 x257 x258 x259 x260 x261 x262 x263 x264 x265 x266 x267 x268 x269 x270 x271 x272 x273 x274 x275 x276 x277 : Value)
    (hexit : ∀ (a' : Act) (w'' : World), (Below w7.heap.size w7 w'' ∧ ∃ UGO : Nat → Value, a' = ⟨List.toArray (x0 :: x1 :: UGO 2 :: x3 :: x4 :: x5 :: x6 :: x7 :: (.slice po pn pc) :: .int .i64 (pn) :: x10 :: x11 :: x12 :: UGO 13 :: x14 :: UGO 15 :: x16 :: x17 :: x18 :: x19 :: x20 :: x21 :: x22 :: x23 :: x24 :: x25 :: x26 :: x27 :: x28 :: x29 :: x30 :: x31 :: x32 :: x33 :: x34 :: x35 :: x36 :: x37 :: x38 :: x39 :: x40 :: x41 :: x42 :: x43 :: x44 :: x45 :: x46 :: x47 :: x48 :: x49 :: x50 :: x51 :: x52 :: x53 :: x54 :: x55 :: x56 :: x57 :: x58 :: x59 :: x60 :: x61 :: x62 :: x63 :: x64 :: x65 :: x66 :: x67 :: x68 :: x69 :: x70 :: x71 :: x72 :: x73 :: x74 :: x75 :: x76 :: x77 :: x78 :: x79 :: x80 :: x81 :: x82 :: x83 :: x84 :: x85 :: x86 :: x87 :: x88 :: x89 :: x90 :: x91 :: x92 :: x93 :: x94 :: x95 :: x96 :: x97 :: x98 :: x99 :: x100 :: x101 :: x102 :: x103 :: x104 :: x105 :: x106 :: x107 :: x108 :: x109 :: x110 :: x111 :: x112 :: x113 :: x114 :: x115 :: x116 :: x117 :: x118 :: x119 :: x120 :: x121 :: x122 :: x123 :: x124 :: x125 :: x126 :: x127 :: x128 :: x129 :: x130 :: x131 :: x132 :: x133 :: x134 :: x135 :: x136 :: x137 :: x138 :: x139 :: x140 :: x141 :: x142 :: x143 :: x144 :: x145 :: x146 :: (.slice go gn gc) :: .int .i64 (gn) :: UGO 149 :: UGO 150 :: UGO 151 :: UGO 152 :: UGO 153 :: UGO 154 :: UGO 155 :: UGO 156 :: UGO 157 :: UGO 158 :: UGO 159 :: UGO 160 :: UGO 161 :: UGO 162 :: UGO 163 :: UGO 164 :: UGO 165 :: UGO 166 :: UGO 167 :: UGO 168 :: UGO 169 :: UGO 170 :: UGO 171 :: UGO 172 :: UGO 173 :: UGO 174 :: UGO 175 :: UGO 176 :: UGO 177 :: UGO 178 :: UGO 179 :: UGO 180 :: UGO 181 :: UGO 182 :: UGO 183 :: UGO 184 :: UGO 185 :: x186 :: x187 :: x188 :: x189 :: x190 :: x191 :: x192 :: x193 :: x194 :: x195 :: x196 :: x197 :: x198 :: x199 :: x200 :: x201 :: x202 :: x203 :: x204 :: x205 :: x206 :: x207 :: x208 :: x209 :: x210 :: x211 :: x212 :: x213 :: x214 :: x215 :: x216 :: x217 :: x218 :: x219 :: x220 :: x221 :: x222 :: x223 :: x224 :: x225 :: x226 :: x227 :: x228 :: x229 :: x230 :: x231 :: x232 :: x233 :: x234 :: x235 :: x236 :: x237 :: x238 :: x239 :: x240 :: x241 :: x242 :: x243 :: x244 :: x245 :: x246 :: x247 :: x248 :: x249 :: x250 :: x251 :: x252 :: x253 :: x254 :: x255 :: x256 :: x257 :: x258 :: x259 :: x260 :: x261 :: x262 :: x263 :: x264 :: x265 :: x266 :: x267 :: x268 :: x269 :: x270 :: x271 :: x272 :: x273 :: x274 :: x275 :: x276 :: x277 :: []), []⟩) → Q0 (.exit 4) a' w'') :
    Code.wp Try.prog ((Try.f4.body.bind (findBlock 4)).getD .skip) Q0 ⟨List.toArray (x0 :: x1 :: x2 :: x3 :: x4 :: x5 :: x6 :: x7 :: (.slice po pn pc) :: .int .i64 (pn) :: x10 :: x11 :: x12 :: .int .i64 (0) :: x14 :: x15 :: x16 :: x17 :: x18 :: x19 :: x20 :: x21 :: x22 :: x23 :: x24 :: x25 :: x26 :: x27 :: x28 :: x29 :: x30 :: x31 :: x32 :: x33 :: x34 :: x35 :: x36 :: x37 :: x38 :: x39 :: x40 :: x41 :: x42 :: x43 :: x44 :: x45 :: x46 :: x47 :: x48 :: x49 :: x50 :: x51 :: x52 :: x53 :: x54 :: x55 :: x56 :: x57 :: x58 :: x59 :: x60 :: x61 :: x62 :: x63 :: x64 :: x65 :: x66 :: x67 :: x68 :: x69 :: x70 :: x71 :: x72 :: x73 :: x74 :: x75 :: x76 :: x77 :: x78 :: x79 :: x80 :: x81 :: x82 :: x83 :: x84 :: x85 :: x86 :: x87 :: x88 :: x89 :: x90 :: x91 :: x92 :: x93 :: x94 :: x95 :: x96 :: x97 :: x98 :: x99 :: x100 :: x101 :: x102 :: x103 :: x104 :: x105 :: x106 :: x107 :: x108 :: x109 :: x110 :: x111 :: x112 :: x113 :: x114 :: x115 :: x116 :: x117 :: x118 :: x119 :: x120 :: x121 :: x122 :: x123 :: x124 :: x125 :: x126 :: x127 :: x128 :: x129 :: x130 :: x131 :: x132 :: x133 :: x134 :: x135 :: x136 :: x137 :: x138 :: x139 :: x140 :: x141 :: x142 :: x143 :: x144 :: x145 :: x146 :: (.slice go gn gc) :: .int .i64 (gn) :: .int .i64 (0) :: x150 :: x151 :: x152 :: x153 :: x154 :: x155 :: x156 :: x157 :: x158 :: x159 :: x160 :: x161 :: x162 :: x163 :: x164 :: x165 :: x166 :: x167 :: x168 :: x169 :: x170 :: x171 :: x172 :: x173 :: x174 :: x175 :: x176 :: x177 :: x178 :: x179 :: x180 :: x181 :: x182 :: x183 :: x184 :: x185 :: x186 :: x187 :: x188 :: x189 :: x190 :: x191 :: x192 :: x193 :: x194 :: x195 :: x196 :: x197 :: x198 :: x199 :: x200 :: x201 :: x202 :: x203 :: x204 :: x205 :: x206 :: x207 :: x208 :: x209 :: x210 :: x211 :: x212 :: x213 :: x214 :: x215 :: x216 :: x217 :: x218 :: x219 :: x220 :: x221 :: x222 :: x223 :: x224 :: x225 :: x226 :: x227 :: x228 :: x229 :: x230 :: x231 :: x232 :: x233 :: x234 :: x235 :: x236 :: x237 :: x238 :: x239 :: x240 :: x241 :: x242 :: x243 :: x244 :: x245 :: x246 :: x247 :: x248 :: x249 :: x250 :: x251 :: x252 :: x253 :: x254 :: x255 :: x256 :: x257 :: x258 :: x259 :: x260 :: x261 :: x262 :: x263 :: x264 :: x265 :: x266 :: x267 :: x268 :: x269 :: x270 :: x271 :: x272 :: x273 :: x274 :: x275 :: x276 :: x277 :: []), []⟩ w7 := by
  conv => arg 2; whnf
  have HE7 := hid HE7
  have HMT := hid hmt
  have HPN := hid hpn
  have HGN := hid hgn
  clear hmt hpn hgn
  go_loopw [13, 149] (fun v y wr => ∃ at0 k : Nat, v = .int .i64 (at0) ∧ y = .int .i64 (k) ∧ k ≤ gn ∧ at0 < pn ∧ (k < gn → at0 ≤ s k) ∧ Below w7.heap.size w7 wr) (fun _ y _ => gn - (intOf y).toNat)
  case atStart => exact ⟨0, 0, rfl, rfl, Nat.zero_le _, by omega, fun _ => Nat.zero_le _, Below.rf _⟩
  case round =>
    obtain ⟨at0, k, rfl, rfl, hk, ha, hs, hB⟩ := hrel
    by_cases hkn : k < gn
    · have HB := hid hB
      have HE := hid (HE7.out.below hB)
      have hs0 := hs hkn
      clear hB hs
      have dk : decide ((k : Int) < (gn : Int)) = true := by simp; omega
      have dkn : decide (k < gn) = true := by simp; omega
      have hkl : k < q.gl.length := by rw [HGN.out]; exact hkn
      have hgx : q.gl[k]? = some q.gl[k] := List.getElem?_eq_getElem hkl
      generalize q.gl[k] = g at *
      obtain ⟨gc1, gd⟩ := g
      obtain ⟨hm1, -, hm3, hm4⟩ := HMT.out k _ hgx
      have hall := HMT.out.all hgx
      simp only at hm1 hm3 hm4 hall
      obtain ⟨dw, rfl⟩ : ∃ y : Nat, gd = y := ⟨gd.toNat, by omega⟩
      rw [Int.toNat_natCast] at hm3 hm4 hall
      rw [HPN.out] at hm3
      have hnext : Hid (k + 1 < gn → s k + dw ≤ s (k + 1)) := fun h => by
        have hl : k + 1 < q.gl.length := by rw [HGN.out]; exact h
        have := (HMT.out (k + 1) _ (List.getElem?_eq_getElem hl)).2.1 k _ rfl hgx
        simpa using this
      have HALL := hid hall
      obtain ⟨gb, gn', gcap, hgv2, hgbl, -, y0, y1⟩ := HE.out.g.row k _ hgx
      simp only [Value.slice.injEq] at hgv2
      obtain ⟨rfl, -, -⟩ := hgv2
      simp only at y0 y1
      clear hgx hm1 hm4 hall hkl
      go_wp2
      refine wp_nm fun w8 hw8 => ?_
      obtain ⟨tb, htb⟩ : ∃ y, wr.heap.size = y := ⟨_, rfl⟩
      have hb8 : Below wr.heap.size wr w8 := by rw [hw8]; (repeat (first | with_reducible exact Below.rf _ | with_reducible exact World.below_ext _ _ | with_reducible refine Below.ex ?_ _ | with_reducible refine Below.al ?_ _ | with_reducible refine Below.setCell ?_ (by simp) _ | with_reducible refine Below.drew ?_))
      have t0 : w8.cell? ⟨wr.heap.size, 0, none⟩ = some (.int .i64 (gc1)) := by rw [hw8]; simp [go_sem, ↓IntWalk.iteOmega]
      have t1 : w8.cell? ⟨wr.heap.size, 1, none⟩ = some (.int .i64 (dw)) := by rw [hw8]; simp [go_sem, ↓IntWalk.iteOmega]
      have htl : wr.heap.size < w8.heap.size := by rw [hw8]; simp
      have HB8 : Hid (Below w7.heap.size w7 w8) := HB.out.trans (hb8.mono HB.out.size)
      rw [htb] at t0 t1 htl ⊢
      obtain ⟨wo, rfl⟩ : ∃ y, y = wr := ⟨_, rfl⟩
      clear hw8 hb8 y0 y1 hgbl HB HE htb
      go_loopw [13] (fun v wr => ∃ at1 : Nat, v = .int .i64 (at1) ∧ at1 ≤ s k ∧ Below w8.heap.size w8 wr) (fun v _ => s k + 1 - (intOf v).toNat)
      case atStart => exact ⟨at0, rfl, hs0, Below.rf _⟩
      case round =>
        obtain ⟨at1, rfl, hat, hB⟩ := hrel
        have HB := hid hB
        have HBB : Hid (Below w7.heap.size w7 wr) := HB8.out.trans (hB.mono HB8.out.size)
        have HE := hid (HE7.out.below HBB.out)
        have t0' := (World.cell?_of_block (hB.block tb htl)).trans t0
        have t1' := (World.cell?_of_block (hB.block tb htl)).trans t1
        have htl' := Nat.lt_of_lt_of_le htl hB.size
        clear hB
        have hj1 : at1 < path.length := by rw [HPN.out]; omega
        obtain ⟨bk, ba, n', cap', hv, hbl, -, -⟩ := HE.out.pp.row at1 _ (List.getElem?_eq_getElem hj1)
        have hpc : pn ≤ pc := by
          obtain ⟨ao', cc, e1, e2⟩ := HE.out.pp.ex
          simp only [Value.slice.injEq] at e1
          omega
        simp only [Value.slice.injEq] at hv
        obtain ⟨rfl, -, -⟩ := hv
        have hsub := fun (w' : World) (h : Below wr.heap.size wr w') => (HE.out.below h).pp.sub at1 (dw + 1) (by rw [HPN.out]; omega) (by rw [HPN.out]; exact hpc)
        obtain ⟨res, hres⟩ : ∃ y, allC gc1 ((path.drop at1).take (dw + 1)) = y := ⟨_, rfl⟩
        have AL : Hid (∀ w' : World, Below wr.heap.size wr w' → Calls Try.prog 22 #[.slice (some ⟨bk, ba + at1, none⟩) (dw + 1) (pc - at1), .int .i64 (gc1)] w' fun e w'' => e = .returned (.bool res) ∧ w'' = w') := fun w' h => by
          have := allOn_any _ gc1 _ lab w' (hsub w' h) (by simp; omega)
          rw [hres] at this
          exact this
        have hnat : (at1 + dw + 1 : Nat) - at1 = dw + 1 := by omega
        have SL := fun (w' : World) => slice_lh1 bk ba at1 (at1 + dw + 1) pn pc (by omega) (by omega) (by omega) w'
        rw [hnat] at SL
        simp only [Int.natCast_add, Int.natCast_one] at SL
        have dn : decide ((at1 : Int) + (dw : Int) < (pn : Int)) = true := by simp; omega
        have dnn : decide (at1 + dw < pn) = true := by simp; omega
        have dn2 : decide ((pn : Int) ≤ (at1 : Int) + (dw : Int)) = false := by simp; omega
        have dnn2 : decide (pn ≤ at1 + dw) = false := by simp; omega
        clear hj1 hsub hnat
        cases res with
        | true =>
          clear hres
          go_wp2
          first | with_reducible refine wp_region_ext2 (by kernel_rfl) (by kernel_rfl) ?_ | refine wp_region_ext (by kernel_rfl) (by kernel_rfl) ?_
          repeat (go_big_quiet_step ((go_at_call 22; exact Calls.ext_of_same (AL.out _ (by (repeat (first | with_reducible exact Below.rf _ | with_reducible exact World.below_ext _ _ | with_reducible refine Below.ex ?_ _ | with_reducible refine Below.al ?_ _ | with_reducible refine Below.setCell ?_ (by simp) _ | with_reducible refine Below.drew ?_)))))))
          refine wpQuiet_nil ?_
          rintro _ ⟨z, rfl⟩
          go_wp2
          go_roundw
          case rel => exact ⟨at1 + dw, k + 1, by go_num, by go_num, by omega, by omega, fun h => by have := hnext.out h; omega, HBB.out.trans ((World.below_ext wr z).mono HBB.out.size)⟩
          case measure => (simp [intOf] <;> omega)
        | false =>
          have hne : at1 ≠ s k := fun e => by
            rw [e, HALL.out] at hres
            cases hres
          clear hres
          go_wp2
          first | with_reducible refine wp_region_ext2 (by kernel_rfl) (by kernel_rfl) ?_ | refine wp_region_ext (by kernel_rfl) (by kernel_rfl) ?_
          repeat (go_big_quiet_step ((go_at_call 22; exact Calls.ext_of_same (AL.out _ (by (repeat (first | with_reducible exact Below.rf _ | with_reducible exact World.below_ext _ _ | with_reducible refine Below.ex ?_ _ | with_reducible refine Below.al ?_ _ | with_reducible refine Below.setCell ?_ (by simp) _ | with_reducible refine Below.drew ?_)))))))
          refine wpQuiet_nil ?_
          rintro _ ⟨z, rfl⟩
          go_wp2
          go_roundw
          case rel => exact ⟨at1 + 1, by go_num, by omega, HB.out.trans ((World.below_ext wr z).mono HB.out.size)⟩
          case measure => (simp [intOf] <;> omega)
    · have dk : decide ((k : Int) < (gn : Int)) = false := by simp; omega
      have dkn : decide (k < gn) = false := by simp; omega
      have HB := hid hB
      clear hB hs
      go_wp2
      exact ⟨HB.out, pickU rfl⟩
end Go.Proofs.Qxb6500716a
