/-
  Solve: its loop over the neighbours, cut out.
-/
import Derived.Test.Qxb6500716aSa
namespace Go.Proofs.Qxb6500716a
open Go.RowKit Go.Maps
set_option linter.unusedSimpArgs false
set_option linter.unusedVariables false
set_option maxRecDepth 20000
set_option maxHeartbeats 4000000
/-- What the moves from a state have added. -/
structure Nbd (T : TS) (q : Rq) (R R' : Nat → Nat → Nat → Prop) (off cell label : Nat) (l : List Int) : Prop where
  old : ∀ i c b, R i c b → R' i c b
  new : ∀ i c b, R' i c b → R i c b ∨ (i = off + 1 ∧ b = label ∧ (c : Int) ∈ l ∧ T.freeM q.r cell c (q.t + off) = true)
  all : ∀ to, to ∈ l → T.freeM q.r cell to (q.t + off) = true → R' (off + 1) to.toNat label
theorem Nbd.nil (T : TS) (q : Rq) (R : Nat → Nat → Nat → Prop) (off cell label : Nat) : Nbd T q R R off cell label [] := ⟨fun _ _ _ h => h, fun _ _ _ h => Or.inl h, fun to h => by cases h⟩
theorem Nbd.skip {T : TS} {q : Rq} {R R' : Nat → Nat → Nat → Prop} {off cell label : Nat} {l : List Int} (h : Nbd T q R R' off cell label l) (x : Int) (hf : T.freeM q.r cell x (q.t + off) = false) : Nbd T q R R' off cell label (l ++ [x]) :=
  ⟨h.old, fun i c b hr => (h.new i c b hr).elim Or.inl (fun e => Or.inr ⟨e.1, e.2.1, by simp [e.2.2.1], e.2.2.2⟩), fun to hto hf2 => by
    rcases List.mem_append.1 hto with h1 | h1
    · exact h.all to h1 hf2
    · simp at h1
      rw [h1, hf] at hf2
      cases hf2⟩
theorem Nbd.add {T : TS} {q : Rq} {R R' : Nat → Nat → Nat → Prop} {off cell label : Nat} {l : List Int} (h : Nbd T q R R' off cell label l) (x : Nat) (hf : T.freeM q.r cell x (q.t + off) = true) : Nbd T q R (addR R' (off + 1) x label) off cell label (l ++ [(x : Int)]) :=
  ⟨fun i c b hr => Or.inr (h.old i c b hr), fun i c b hr => by
    rcases hr with ⟨rfl, rfl, rfl⟩ | hr
    · exact Or.inr ⟨rfl, rfl, by simp, hf⟩
    · exact (h.new i c b hr).elim Or.inl (fun e => Or.inr ⟨e.1, e.2.1, by simp [e.2.2.1], e.2.2.2⟩), fun to hto hf2 => by
    rcases List.mem_append.1 hto with h1 | h1
    · exact Or.inr (h.all to h1 hf2)
    · simp at h1
      exact Or.inl ⟨rfl, by rw [h1]; simp, rfl⟩⟩
set_option maxRecDepth 1000000 in
set_option maxHeartbeats 400000000 in
theorem nb_loop (w0 w7 : World) (lab lb : Nat → Nat) (mb sb fb rb H B off cell label lb0 ln lcap : Nat) (mm : Nat → Nat) (M : TM) (F : FS) (T : TS) (q : Rq) (gv : Value) (R : Nat → Nat → Nat → Prop) (l : List Int)
    (HI0 : In7 w0 lab mb fb M F T q gv) (HS7 : Sg7 w0 w7 lb sb rb H mm q gv R B) (hof : off + 1 ≤ H) (hH : H ≤ 255) (hce : cell ≤ 384) (hla : label ≤ 16) (hBB : B ≤ 800000000) (hln : l.length = ln) (hl385 : ln ≤ 385) (hlc : ln ≤ lcap) (hl0 : lb lb0 = 3) (hll : lb0 < w7.heap.size) (hlr : ∀ (j : Nat) (c : Int), l[j]? = some c → w7.cell? ⟨lb0, j, none⟩ = some (.int .i64 (c)) ∧ 0 ≤ c ∧ c < 384)
    (Q0 : Exit → Act → World → Prop) (x1 x2 x4 x5 x6 x7 x8 x10 x15 x16 x17 x18 x19 x20 x21 x22 x23 x24 x25 x26 x27 x28 x29 x30 x31 x32 x33 x34 x35 x36 x37 x38 x39 x40 x41 x42 x43 x44 x45 x46 x47 x48 x49 x50 x51 x52 x53 x54 x55 x56 x57 x58 x59 x60 x61 x62 x63 x64 x65 x66 x67 x68 x69 x70 x71 x72 x73 x74 x75 x76 x77 x78 x79 x80 x81 x82 x83 x84 x85 x86 x87 x88 x89 x90 x91 x92 x93 x94 x95 x96 x97 x98 x99 x100 x101 x102 x103 x104 x105 x106 x107 x108 x109 x110 x111 x112 x113 x114 x115 x116 x117 x118 x119 x120 x121 x122 x123 x124 x125 x126 x127 x128 x129 x130 x131 x132 x133 x134 x135 x136 x137 x138 x139 x140 x141 x142 x143 x144 x145 x146 x147 x148 x149 x150 x151 x152 x153 x154 x155 x156 x157 x158 x159 x160 x161 x162 x163 x164 x165 x166 x167 x168 x169 x170 x171 x172 x173 x174 x175 x176 x177 x178 x179 x180 x181 x182 x183 x184 x185 x186 x187 x188 x189 x190 x191 x192 x193 x194 x195 x196 x197 x198 x199 x200 x201 x202 x203 x204 x205 x206 x207 x208 x209 x210 x211 x212 x213 x214 x215 x216 x217 x218 x219 x220 x221 x222 x223 x224 x225 x226 x227 x228 x229 x230 x231 x232 x233 x234 x235 x236 x237 x238 x239 x240 x241 x242 x243 x244 x245 x246 x247 x248 x249 x250 x251 x252 x253 x254 x255 x256 x257 x258 x259 x260 x264 x265 x266 x267 x268 x269 x270 x271 x272 x273 x274 x275 x276 x277 x278 x279 x280 x281 x282 x283 x284 x285 : Value)
    (hexit : ∀ (a' : Act) (w'' : World), ((∃ R', Sg7 w0 w'' lb sb rb H mm q gv R' (B + ln) ∧ Nbd T q R R' off cell label l) ∧ ∃ UNB : Nat → Value, a' = ⟨List.toArray (.pointer (some ⟨mb, 0, none⟩) :: x1 :: x2 :: .pointer (some ⟨sb, 0, none⟩) :: x4 :: x5 :: x6 :: x7 :: x8 :: (.slice (some ⟨rb, 0, none⟩) (H + 1) (H + 1)) :: x10 :: .int .i64 (off) :: .int .i64 (q.t + off) :: .int .i64 (label) :: .int .i64 (cell) :: x15 :: x16 :: x17 :: x18 :: UNB 19 :: x20 :: x21 :: x22 :: x23 :: x24 :: x25 :: x26 :: x27 :: x28 :: x29 :: x30 :: x31 :: x32 :: x33 :: x34 :: x35 :: x36 :: x37 :: x38 :: x39 :: x40 :: x41 :: x42 :: x43 :: x44 :: x45 :: x46 :: x47 :: x48 :: x49 :: x50 :: x51 :: x52 :: x53 :: x54 :: x55 :: x56 :: x57 :: x58 :: x59 :: x60 :: x61 :: x62 :: x63 :: x64 :: x65 :: x66 :: x67 :: x68 :: x69 :: x70 :: x71 :: x72 :: x73 :: x74 :: x75 :: x76 :: x77 :: x78 :: x79 :: x80 :: x81 :: x82 :: x83 :: x84 :: x85 :: x86 :: x87 :: x88 :: x89 :: x90 :: x91 :: x92 :: x93 :: x94 :: x95 :: x96 :: x97 :: x98 :: x99 :: x100 :: x101 :: x102 :: x103 :: x104 :: x105 :: x106 :: x107 :: x108 :: x109 :: x110 :: x111 :: x112 :: x113 :: x114 :: x115 :: x116 :: x117 :: x118 :: x119 :: x120 :: x121 :: x122 :: x123 :: x124 :: x125 :: x126 :: x127 :: x128 :: x129 :: x130 :: x131 :: x132 :: x133 :: x134 :: x135 :: x136 :: x137 :: x138 :: x139 :: x140 :: x141 :: x142 :: x143 :: x144 :: x145 :: x146 :: x147 :: x148 :: x149 :: x150 :: x151 :: x152 :: x153 :: x154 :: x155 :: x156 :: x157 :: x158 :: x159 :: x160 :: x161 :: x162 :: x163 :: x164 :: x165 :: x166 :: x167 :: x168 :: x169 :: x170 :: x171 :: x172 :: x173 :: x174 :: x175 :: x176 :: x177 :: x178 :: x179 :: x180 :: x181 :: x182 :: x183 :: x184 :: x185 :: x186 :: x187 :: x188 :: x189 :: x190 :: x191 :: x192 :: x193 :: x194 :: x195 :: x196 :: x197 :: x198 :: x199 :: x200 :: x201 :: x202 :: x203 :: x204 :: x205 :: x206 :: x207 :: x208 :: x209 :: x210 :: x211 :: x212 :: x213 :: x214 :: x215 :: x216 :: x217 :: x218 :: x219 :: x220 :: x221 :: x222 :: x223 :: x224 :: x225 :: x226 :: x227 :: x228 :: x229 :: x230 :: x231 :: x232 :: x233 :: x234 :: x235 :: x236 :: x237 :: x238 :: x239 :: x240 :: x241 :: x242 :: x243 :: x244 :: x245 :: x246 :: x247 :: x248 :: x249 :: x250 :: x251 :: x252 :: x253 :: x254 :: x255 :: x256 :: x257 :: x258 :: x259 :: x260 :: (.slice (some ⟨lb0, 0, none⟩) ln lcap) :: .int .i64 (ln) :: UNB 263 :: UNB 264 :: UNB 265 :: UNB 266 :: UNB 267 :: UNB 268 :: UNB 269 :: UNB 270 :: UNB 271 :: UNB 272 :: UNB 273 :: UNB 274 :: UNB 275 :: UNB 276 :: UNB 277 :: UNB 278 :: UNB 279 :: UNB 280 :: UNB 281 :: UNB 282 :: UNB 283 :: UNB 284 :: UNB 285 :: []), []⟩) → Q0 (.exit 10) a' w'') :
    Code.wp Try.prog ((Try.f34.body.bind (findBlock 10)).getD .skip) Q0 ⟨List.toArray (.pointer (some ⟨mb, 0, none⟩) :: x1 :: x2 :: .pointer (some ⟨sb, 0, none⟩) :: x4 :: x5 :: x6 :: x7 :: x8 :: (.slice (some ⟨rb, 0, none⟩) (H + 1) (H + 1)) :: x10 :: .int .i64 (off) :: .int .i64 (q.t + off) :: .int .i64 (label) :: .int .i64 (cell) :: x15 :: x16 :: x17 :: x18 :: x19 :: x20 :: x21 :: x22 :: x23 :: x24 :: x25 :: x26 :: x27 :: x28 :: x29 :: x30 :: x31 :: x32 :: x33 :: x34 :: x35 :: x36 :: x37 :: x38 :: x39 :: x40 :: x41 :: x42 :: x43 :: x44 :: x45 :: x46 :: x47 :: x48 :: x49 :: x50 :: x51 :: x52 :: x53 :: x54 :: x55 :: x56 :: x57 :: x58 :: x59 :: x60 :: x61 :: x62 :: x63 :: x64 :: x65 :: x66 :: x67 :: x68 :: x69 :: x70 :: x71 :: x72 :: x73 :: x74 :: x75 :: x76 :: x77 :: x78 :: x79 :: x80 :: x81 :: x82 :: x83 :: x84 :: x85 :: x86 :: x87 :: x88 :: x89 :: x90 :: x91 :: x92 :: x93 :: x94 :: x95 :: x96 :: x97 :: x98 :: x99 :: x100 :: x101 :: x102 :: x103 :: x104 :: x105 :: x106 :: x107 :: x108 :: x109 :: x110 :: x111 :: x112 :: x113 :: x114 :: x115 :: x116 :: x117 :: x118 :: x119 :: x120 :: x121 :: x122 :: x123 :: x124 :: x125 :: x126 :: x127 :: x128 :: x129 :: x130 :: x131 :: x132 :: x133 :: x134 :: x135 :: x136 :: x137 :: x138 :: x139 :: x140 :: x141 :: x142 :: x143 :: x144 :: x145 :: x146 :: x147 :: x148 :: x149 :: x150 :: x151 :: x152 :: x153 :: x154 :: x155 :: x156 :: x157 :: x158 :: x159 :: x160 :: x161 :: x162 :: x163 :: x164 :: x165 :: x166 :: x167 :: x168 :: x169 :: x170 :: x171 :: x172 :: x173 :: x174 :: x175 :: x176 :: x177 :: x178 :: x179 :: x180 :: x181 :: x182 :: x183 :: x184 :: x185 :: x186 :: x187 :: x188 :: x189 :: x190 :: x191 :: x192 :: x193 :: x194 :: x195 :: x196 :: x197 :: x198 :: x199 :: x200 :: x201 :: x202 :: x203 :: x204 :: x205 :: x206 :: x207 :: x208 :: x209 :: x210 :: x211 :: x212 :: x213 :: x214 :: x215 :: x216 :: x217 :: x218 :: x219 :: x220 :: x221 :: x222 :: x223 :: x224 :: x225 :: x226 :: x227 :: x228 :: x229 :: x230 :: x231 :: x232 :: x233 :: x234 :: x235 :: x236 :: x237 :: x238 :: x239 :: x240 :: x241 :: x242 :: x243 :: x244 :: x245 :: x246 :: x247 :: x248 :: x249 :: x250 :: x251 :: x252 :: x253 :: x254 :: x255 :: x256 :: x257 :: x258 :: x259 :: x260 :: (.slice (some ⟨lb0, 0, none⟩) ln lcap) :: .int .i64 (ln) :: .int .i64 (0) :: x264 :: x265 :: x266 :: x267 :: x268 :: x269 :: x270 :: x271 :: x272 :: x273 :: x274 :: x275 :: x276 :: x277 :: x278 :: x279 :: x280 :: x281 :: x282 :: x283 :: x284 :: x285 :: []), []⟩ w7 := by
  conv => arg 2; whnf
  have HI := hid HI0
  have HS7 := hid HS7
  have hqt := HI0.tk
  have HLN := hid hln
  have HLR := hid hlr
  have HL0 := hid hl0
  clear HI0 hln hlr hl0
  go_loopw [263] (fun v wr => ∃ (j : Nat) (R' : Nat → Nat → Nat → Prop), v = .int .i64 (j) ∧ j ≤ ln ∧ Sg7 w0 wr lb sb rb H mm q gv R' (B + j) ∧ Nbd T q R R' off cell label (l.take j) ∧ w7.heap.size ≤ wr.heap.size ∧ wr.heap[lb0]? = w7.heap[lb0]?) (fun v _ => ln - (intOf v).toNat)
  case atStart => exact ⟨0, R, rfl, Nat.zero_le _, HS7.out, Nbd.nil T q R off cell label, Nat.le_refl _, rfl⟩
  case round =>
    obtain ⟨j, R', rfl, hj, hS, hN, hsz, hbl⟩ := hrel
    have HS := hid hS
    have HN := hid hN
    have HBL := hid hbl
    clear hS hN hbl
    by_cases hjn : j < ln
    · have dj : decide ((j : Int) < (ln : Int)) = true := by simp; omega
      have djn : decide (j < ln) = true := by simp; omega
      have hjl : j < l.length := by rw [HLN.out]; exact hjn
      have hx : l[j]? = some l[j] := List.getElem?_eq_getElem hjl
      have htk : l.take (j + 1) = l.take j ++ [l[j]] := by rw [List.take_add_one, hx]; rfl
      generalize l[j] = x at *
      obtain ⟨y0, hx0, hx1⟩ := HLR.out j x hx
      obtain ⟨to, rfl⟩ : ∃ to : Nat, x = to := ⟨x.toNat, by omega⟩
      have y1 : wr.cell? ⟨lb0, j, none⟩ = some (.int .i64 (to)) := (World.cell?_of_block HBL.out).trans y0
      have hll2 : lb0 < wr.heap.size := by omega
      have hMB := HI.out.m.below HS.out.bl
      have m0 := hMB.c0
      have m1 := hMB.c1
      have hml := hMB.lt
      have s0 : (wr).cell? ⟨sb, 0, none⟩ = some (.int .i64 (q.r)) := HS.out.s.is 0 (by omega)
      have hsl := HS.out.s.lt
      have hTB := HI.out.t.below HS.out.bl
      have hrc : wr.cell? ⟨rb, off + 1, none⟩ = some (.map (some (mm (off + 1)))) := HS.out.rd.b.is (off + 1) (by omega)
      have hrl := HS.out.rd.b.lt
      obtain ⟨fv, hfv⟩ : ∃ y, T.freeM q.r cell to (q.t + off) = y := ⟨_, rfl⟩
      have FM : Hid (∀ w' : World, Below wr.heap.size wr w' → Calls Try.prog 63 #[.pointer (some ⟨M.t, 0, none⟩), .int .i64 (q.r), .int .i64 (cell), .int .i64 (to), .int .i64 (q.t + off)] w' fun e w'' => e = .returned (.bool fv) ∧ ∃ z, w'' = w'.ext z) := fun w' h => by
        have := freeM_any M T lab q.r cell to (q.t + off) w' (hTB.below h) HI.out.r (I64.nat (by omega)) (I64.nat (by omega)) (by unfold I64; omega)
        rw [hfv] at this
        exact this
      have HTK := hid htk
      have HFV := hid hfv
      clear hTB hMB hx y0 htk hfv hjl
      cases fv with
      | false =>
        go_wp2
        first | with_reducible refine wp_region_ext2 (by kernel_rfl) (by kernel_rfl) ?_ | refine wp_region_ext (by kernel_rfl) (by kernel_rfl) ?_
        repeat (go_big_quiet_step ((go_at_call 63; exact Calls.ext_of (FM.out _ (by (repeat (first | with_reducible exact Below.rf _ | with_reducible exact World.below_ext _ _ | with_reducible refine Below.ex ?_ _ | with_reducible refine Below.al ?_ _ | with_reducible refine Below.setCell ?_ (by simp) _ | with_reducible refine Below.drew ?_)))))))
        refine wpQuiet_nil ?_
        rintro w3 ⟨z, hw2⟩
        have hb3 : Below wr.heap.size wr w3 := by rw [hw2]; exact World.below_ext wr z
        have HB3 := hid hb3
        clear hw2 hb3
        go_wp2
        go_roundw
        case rel => exact ⟨j + 1, R', by go_num, by omega, (HS.out.below HB3.out).rd.mono (by omega) |> fun k => { HS.out.below HB3.out with rd := k }, by rw [HTK.out]; exact HN.out.skip _ HFV.out, Nat.le_trans hsz HB3.out.size, (HB3.out.block lb0 hll2).trans HBL.out⟩
        case measure => (simp [intOf] <;> omega)
      | true =>
        go_wp2
        first | with_reducible refine wp_region_ext2 (by kernel_rfl) (by kernel_rfl) ?_ | refine wp_region_ext (by kernel_rfl) (by kernel_rfl) ?_
        repeat (go_big_quiet_step ((go_at_call 63; exact Calls.ext_of (FM.out _ (by (repeat (first | with_reducible exact Below.rf _ | with_reducible exact World.below_ext _ _ | with_reducible refine Below.ex ?_ _ | with_reducible refine Below.al ?_ _ | with_reducible refine Below.setCell ?_ (by simp) _ | with_reducible refine Below.drew ?_)))))))
        refine wpQuiet_nil ?_
        rintro w3 ⟨z, hw2⟩
        have hb3 : Below wr.heap.size wr w3 := by rw [hw2]; exact World.below_ext wr z
        have HS3 := hid (HS.out.below hb3)
        have hrc3 := (World.cell?_of_block (hb3.block rb hrl)).trans hrc
        have hrl3 := Nat.lt_of_lt_of_le hrl hb3.size
        have HB3 := hid hb3
        have hll3 := Nat.lt_of_lt_of_le hll2 hb3.size
        have HBL3 : Hid (w3.heap[lb0]? = w7.heap[lb0]?) := (hb3.block lb0 hll2).trans HBL.out
        have hsz3 := Nat.le_trans hsz hb3.size
        clear hw2 hb3 hrc hrl m0 m1 hml s0 hsl hll2 hsz
        go_wp2_with (first | (at_mapUpdate; refine wpList_put_r _ rfl _ _ _ rfl (off + 1) to label HS3.out.rd hof (by omega) (by omega) (by omega) rfl rfl rfl ?_; intro w4 hR4 hg4; go_frame) | go_in)
        go_roundw
        case rel =>
          refine ⟨j + 1, _, by go_num, by omega, (HS3.out.put hof hR4 hg4), by rw [HTK.out]; exact HN.out.add _ HFV.out, Nat.le_trans hsz3 hg4.size, ?_⟩
          rw [hg4.block lb0 hll3 (fun e => by
            have h1 := (HS3.out.rd.m (off + 1) hof).1
            rw [← Option.some.inj e, HL0.out] at h1
            omega)]
          exact HBL3.out
        case measure => (simp [intOf] <;> omega)
    · have dj : decide ((j : Int) < (ln : Int)) = false := by simp; omega
      have djn : decide (j < ln) = false := by simp; omega
      obtain rfl : j = ln := by omega
      have HN2 : Hid (Nbd T q R R' off cell label l) := by
        have := HN.out
        rw [List.take_of_length_le (by rw [HLN.out]; exact Nat.le_refl _)] at this
        exact this
      go_wp2
      exact ⟨⟨R', HS.out, HN2.out⟩, pickU rfl⟩
end Go.Proofs.Qxb6500716a
