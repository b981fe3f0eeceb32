/-
  PlansAreValid: allOn; its loops, cut out.
-/
import Derived.Test.Qxb6500716aFx
import Derived.Test.Qxb6500716aUn
namespace Go.Proofs.Qxb6500716a
open Go.RowKit Go.Maps
set_option linter.unusedSimpArgs false
set_option linter.unusedVariables false
set_option maxRecDepth 20000
set_option maxHeartbeats 4000000
/-- The letters of a frame, as one function. -/
theorem pickU {L : List Value} {shape : (Nat → Value) → List Value} (h : L = shape (fun k => L.getD k (.bool false))) : ∃ U : Nat → Value, (⟨List.toArray L, []⟩ : Act) = ⟨List.toArray (shape U), []⟩ := ⟨_, congrArg (fun l : List Value => (⟨List.toArray l, []⟩ : Act)) h⟩
def allC (c : Int) : List Int → Bool
  | [] => true
  | x :: l => if x = c then allC c l else false
theorem allC_yes (c : Int) : ∀ l : List Int, (∀ x, x ∈ l → x = c) → allC c l = true
  | [], _ => rfl
  | x :: l, h => by rw [allC, if_pos (h x (by simp))]; exact allC_yes c l (fun y hy => h y (by simp [hy]))
theorem allOn_any (v : Value) (c : Int) (l : List Int) (lab : Nat → Nat) (w : World) (hI : Ints w lab v l) (hl : l.length ≤ 300) :
    Calls Try.prog 22 #[v, .int .i64 (c)] w fun e w' => e = .returned (.bool (allC c l)) ∧ w' = w := by
  obtain ⟨ao, cap, hv, hc⟩ := hI.ex
  have HI := hid hI
  obtain ⟨n, hn⟩ : ∃ y, l.length = y := ⟨_, rfl⟩
  rw [hn] at hv hl hc
  have HN := hid hn
  subst hv
  obtain ⟨res, hres⟩ : ∃ y, allC c l = y := ⟨_, rfl⟩
  rw [hres]
  have HR := hid hres
  clear hI hn hres
  go_enter Try.func22, Try.ntmps22
  go_wp2
  go_loopw [9] (fun v wr => ∃ k : Nat, v = .int .i64 (k) ∧ k ≤ n ∧ allC c (l.drop k) = res ∧ wr = w) (fun v _ => n - (intOf v).toNat)
  case atStart => exact ⟨0, rfl, Nat.zero_le _, by simpa using HR.out, rfl⟩
  case round =>
    obtain ⟨k, rfl, hk, heq, hwr⟩ := hrel
    obtain rfl := hwr.symm
    by_cases hkn : k < n
    · have dk : decide ((k : Int) < (n : Int)) = true := by simp; omega
      have dkn : decide (k < n) = true := by simp; omega
      have hkl : k < l.length := by rw [HN.out]; exact hkn
      have hx : l[k]? = some l[k] := List.getElem?_eq_getElem hkl
      rw [List.drop_eq_getElem_cons hkl, allC] at heq
      generalize l[k] = dd at *
      obtain ⟨bk, ba, n', cap', hv, hbl, -, cq⟩ := HI.out.row k _ hx
      simp only [Value.slice.injEq] at hv
      obtain ⟨rfl, -, -⟩ := hv
      by_cases hd : dd = c
      · rw [if_pos hd] at heq
        have HE := hid heq
        have dd1 : (dd != c) = false := by simp [hd]
        clear heq hx hd
        go_wp2
        go_roundw
        case rel => exact ⟨k + 1, by go_num, by omega, HE.out, trivial⟩
        case measure => (simp [intOf] <;> omega)
      · rw [if_neg hd] at heq
        have HE := hid heq
        have dd1 : (dd != c) = true := by simp [hd]
        clear heq hx hd
        go_wp2
        go_ret
        exact ⟨by rw [← HE.out]; rfl, rfl⟩
    · have dk : decide ((k : Int) < (n : Int)) = false := by simp; omega
      have dkn : decide (k < n) = false := by simp; omega
      rw [List.drop_eq_nil_of_le (by rw [HN.out]; omega), allC] at heq
      have HE := hid heq
      clear heq
      go_wp2
      go_ret
      exact ⟨by rw [← HE.out]; rfl, rfl⟩
theorem slice_lh1 (b a k n len cap : Nat) (h : k ≤ n) (h1 : n ≤ cap) (h2 : k < cap) (w : World) : (Instr.sliceAt 32 (.slice (some ⟨b, a, none⟩) len cap) (some (.int .i64 (k))) (some (.int .i64 (n))) none).run Try.prog w = .ok (.slice (some ⟨b, a + k, none⟩) (n - k) (cap - k)) w := by
  have he : (Try.prog).elem 32 = 3 := by simp [Program.elem, Try.underlying32]
  have ht' : (Try.prog).underlying 32 = some (.slice ((Try.prog).elem 32)) := by rw [he]; exact Try.underlying32
  rw [run_sliceAt_slice _ _ _ _ _ _ ht', run_slice_lh _ _ _ _ _ ht' _ _ _ _ (by omega) (by omega) (by omega)]
  have hsz : (sizeOf ((Try.prog).elem 32)).run Try.prog w = .ok 1 w := by rw [he]; kernel_rfl
  rw [hsz]
  simp only [Result.andThen, sliced, Int.toNat_natCast]
  rw [if_neg (by omega)]
  simp [Addr.add_lit]
theorem Ints.sub {w : World} {lab : Nat → Nat} {b a n cap : Nat} {l : List Int} (h : Ints w lab (.slice (some ⟨b, a, none⟩) n cap) l) (k m : Nat) (hk : k + m ≤ l.length) (hc : l.length ≤ cap) : Ints w lab (.slice (some ⟨b, a + k, none⟩) m (cap - k)) ((l.drop k).take m) := by
  have hl : ((l.drop k).take m).length = m := by simp; omega
  refine ⟨⟨_, _, by rw [hl], by omega⟩, by have := h.len; omega, fun c hc => h.i64 c (List.mem_of_mem_drop (List.mem_of_mem_take hc)), fun j c hj => ?_⟩
  have hjm : j < m := by
    have := (List.getElem?_eq_some_iff.1 hj).1
    omega
  rw [List.getElem?_take, if_pos hjm, List.getElem?_drop] at hj
  obtain ⟨b', a', n', cap', h1, h2, h3, h4⟩ := h.row (k + j) c hj
  simp only [Value.slice.injEq, Option.some.injEq, Addr.mk.injEq] at h1
  obtain ⟨⟨rfl, rfl, -⟩, -, -⟩ := h1
  exact ⟨b, a + k, m, cap - k, rfl, h2, h3, by rw [Nat.add_assoc]; exact h4⟩
def rq4 (q : Rq) (gv : Value) : Nat → Value
  | 0 => .int .i64 (q.r)
  | 1 => .int .i64 (q.s)
  | 2 => .int .i64 (q.t)
  | 3 => gv
  | 4 => .int .i64 (q.h)
  | _ => .int .i64 (q.m)
/-- All that the checks of one plan read. -/
structure E4 (w : World) (lab labc : Nat → Nat) (d rb fb : Nat) (Mc : TM) (F : FS) (T : TS) (q : Rq) (gv pv : Value) (path : List Int) : Prop where
  f : FAt w lab fb F
  c : TAt w labc Mc T
  d0 : w.cell? ⟨d, 0, none⟩ = some (.pointer (some ⟨fb, 0, none⟩))
  d11 : w.cell? ⟨d, 11, none⟩ = some (.int .i64 (q.t))
  dl : d < w.heap.size
  r : Blk w rb 6 (rq4 q gv)
  pp : Ints w lab pv path
  g : GAt w lab gv q.gl
theorem E4.below {w w' : World} {lab labc : Nat → Nat} {d rb fb : Nat} {Mc : TM} {F : FS} {T : TS} {q : Rq} {gv pv : Value} {path : List Int} (h : E4 w lab labc d rb fb Mc F T q gv pv path) (hb : Below w.heap.size w w') : E4 w' lab labc d rb fb Mc F T q gv pv path :=
  ⟨h.f.below hb, h.c.below hb, (World.cell?_of_block (hb.block d h.dl)).trans h.d0, (World.cell?_of_block (hb.block d h.dl)).trans h.d11, Nat.lt_of_lt_of_le h.dl hb.size, h.r.below hb, h.pp.keptL (A := fun _ => False) (KeptL.of_below hb) (fun _ h => h.elim), h.g.below hb⟩
set_option maxRecDepth 1000000 in
set_option maxHeartbeats 400000000 in
theorem ad_loop (w7 : World) (lab labc : Nat → Nat) (d rb fb pn pc : Nat) (Mc : TM) (F : FS) (T : TS) (q : Rq) (gv : Value) (po : Option Addr) (path : List Int)
    (HE7 : E4 w7 lab labc d rb fb Mc F T q gv (.slice po pn pc) path) (hadj : ∀ (j : Nat) (a b : Int), path[j]? = some a → path[j + 1]? = some b → b = a ∨ F.adj a b = true) (hpn : path.length = pn) (hln : 1 ≤ pn ∧ pn ≤ 256)
    (Q0 : Exit → Act → World → Prop) (x0 x1 x2 x4 x5 x6 x7 x10 x11 x13 x14 x15 x16 x17 x18 x19 x20 x21 x22 x23 x24 x25 x26 x27 x28 x29 x30 x31 x32 x33 x34 x35 x36 x37 x38 x39 x40 x41 x42 x43 x44 x45 x46 x47 x48 x49 x50 x51 x52 x53 x54 x55 x56 x57 x58 x59 x60 x61 x62 x63 x64 x65 x66 x67 x68 x69 x70 x71 x72 x73 x74 x75 x76 x77 x78 x79 x80 x81 x82 x83 x84 x85 x86 x87 x88 x89 x90 x91 x92 x93 x94 x95 x96 x97 x98 x99 x100 x101 x102 x103 x104 x105 x106 x107 x108 x109 x110 x111 x112 x113 x114 x115 x116 x117 x118 x119 x120 x121 x122 x123 x124 x125 x126 x127 x128 x129 x130 x131 x132 x133 x134 x135 x136 x137 x138 x139 x140 x141 x142 x143 x144 x145 x146 x147 x148 x149 x150 x151 x152 x153 x154 x155 x156 x157 x158 x159 x160 x161 x162 x163 x164 x165 x166 x167 x168 x169 x170 x171 x172 x173 x174 x175 x176 x177 x178 x179 x180 x181 x182 x183 x184 x185 x186 x187 x188 x189 x190 x191 x192 x193 x194 x195 x196 x197 x198 x199 x200 x201 x202 x203 x204 x205 x206 x207 x208 x209 x210 x211 x212 x213 x214 x215 x216 x217 x218 x219 x220 x221 x222 x223 x224 x225 x226 x227 x228 x229 x230 x231 x232 x233 x234 x235 x236 x237 x238 x239 x240 x241 x242 x243 x244 x245 x246 x247 x248 x249 x250 x251 x252 x253 x254 x255 x256 x257 x258 x259 x260 x261 x262 x263 x264 x265 x266 x267 x268 x269 x270 x271 x272 x273 x274 x275 x276 x277 : Value)
    (hexit : ∀ (a' : Act) (w'' : World), (Below w7.heap.size w7 w'' ∧ ∃ UAD : Nat → Value, a' = ⟨List.toArray (x0 :: x1 :: UAD 2 :: .pointer (some ⟨d, 0, none⟩) :: x4 :: x5 :: x6 :: x7 :: (.slice po pn pc) :: .int .i64 (pn) :: x10 :: x11 :: UAD 12 :: x13 :: x14 :: x15 :: x16 :: x17 :: x18 :: x19 :: x20 :: x21 :: x22 :: x23 :: x24 :: x25 :: x26 :: x27 :: x28 :: x29 :: x30 :: x31 :: x32 :: x33 :: x34 :: x35 :: x36 :: x37 :: x38 :: x39 :: x40 :: x41 :: x42 :: x43 :: x44 :: x45 :: x46 :: x47 :: x48 :: x49 :: x50 :: x51 :: x52 :: x53 :: x54 :: x55 :: x56 :: x57 :: x58 :: x59 :: x60 :: x61 :: x62 :: x63 :: x64 :: x65 :: x66 :: x67 :: x68 :: x69 :: x70 :: x71 :: x72 :: x73 :: x74 :: x75 :: x76 :: x77 :: x78 :: x79 :: x80 :: x81 :: x82 :: x83 :: x84 :: x85 :: x86 :: x87 :: x88 :: x89 :: x90 :: x91 :: x92 :: x93 :: x94 :: x95 :: x96 :: x97 :: x98 :: x99 :: x100 :: x101 :: x102 :: x103 :: x104 :: x105 :: x106 :: x107 :: x108 :: x109 :: x110 :: x111 :: x112 :: x113 :: UAD 114 :: UAD 115 :: UAD 116 :: UAD 117 :: UAD 118 :: UAD 119 :: UAD 120 :: UAD 121 :: UAD 122 :: UAD 123 :: UAD 124 :: UAD 125 :: UAD 126 :: UAD 127 :: UAD 128 :: UAD 129 :: UAD 130 :: UAD 131 :: UAD 132 :: UAD 133 :: UAD 134 :: UAD 135 :: UAD 136 :: UAD 137 :: UAD 138 :: UAD 139 :: UAD 140 :: UAD 141 :: UAD 142 :: UAD 143 :: UAD 144 :: UAD 145 :: x146 :: x147 :: x148 :: x149 :: x150 :: x151 :: x152 :: x153 :: x154 :: x155 :: x156 :: x157 :: x158 :: x159 :: x160 :: x161 :: x162 :: x163 :: x164 :: x165 :: x166 :: x167 :: x168 :: x169 :: x170 :: x171 :: x172 :: x173 :: x174 :: x175 :: x176 :: x177 :: x178 :: x179 :: x180 :: x181 :: x182 :: x183 :: x184 :: x185 :: x186 :: x187 :: x188 :: x189 :: x190 :: x191 :: x192 :: x193 :: x194 :: x195 :: x196 :: x197 :: x198 :: x199 :: x200 :: x201 :: x202 :: x203 :: x204 :: x205 :: x206 :: x207 :: x208 :: x209 :: x210 :: x211 :: x212 :: x213 :: x214 :: x215 :: x216 :: x217 :: x218 :: x219 :: x220 :: x221 :: x222 :: x223 :: x224 :: x225 :: x226 :: x227 :: x228 :: x229 :: x230 :: x231 :: x232 :: x233 :: x234 :: x235 :: x236 :: x237 :: x238 :: x239 :: x240 :: x241 :: x242 :: x243 :: x244 :: x245 :: x246 :: x247 :: x248 :: x249 :: x250 :: x251 :: x252 :: x253 :: x254 :: x255 :: x256 :: x257 :: x258 :: x259 :: x260 :: x261 :: x262 :: x263 :: x264 :: x265 :: x266 :: x267 :: x268 :: x269 :: x270 :: x271 :: x272 :: x273 :: x274 :: x275 :: x276 :: x277 :: []), []⟩) → Q0 (.exit 2) a' w'') :
    Code.wp Try.prog ((Try.f4.body.bind (findBlock 2)).getD .skip) Q0 ⟨List.toArray (x0 :: x1 :: x2 :: .pointer (some ⟨d, 0, none⟩) :: x4 :: x5 :: x6 :: x7 :: (.slice po pn pc) :: .int .i64 (pn) :: x10 :: x11 :: .int .i64 (1) :: x13 :: x14 :: x15 :: x16 :: x17 :: x18 :: x19 :: x20 :: x21 :: x22 :: x23 :: x24 :: x25 :: x26 :: x27 :: x28 :: x29 :: x30 :: x31 :: x32 :: x33 :: x34 :: x35 :: x36 :: x37 :: x38 :: x39 :: x40 :: x41 :: x42 :: x43 :: x44 :: x45 :: x46 :: x47 :: x48 :: x49 :: x50 :: x51 :: x52 :: x53 :: x54 :: x55 :: x56 :: x57 :: x58 :: x59 :: x60 :: x61 :: x62 :: x63 :: x64 :: x65 :: x66 :: x67 :: x68 :: x69 :: x70 :: x71 :: x72 :: x73 :: x74 :: x75 :: x76 :: x77 :: x78 :: x79 :: x80 :: x81 :: x82 :: x83 :: x84 :: x85 :: x86 :: x87 :: x88 :: x89 :: x90 :: x91 :: x92 :: x93 :: x94 :: x95 :: x96 :: x97 :: x98 :: x99 :: x100 :: x101 :: x102 :: x103 :: x104 :: x105 :: x106 :: x107 :: x108 :: x109 :: x110 :: x111 :: x112 :: x113 :: x114 :: x115 :: x116 :: x117 :: x118 :: x119 :: x120 :: x121 :: x122 :: x123 :: x124 :: x125 :: x126 :: x127 :: x128 :: x129 :: x130 :: x131 :: x132 :: x133 :: x134 :: x135 :: x136 :: x137 :: x138 :: x139 :: x140 :: x141 :: x142 :: x143 :: x144 :: x145 :: x146 :: x147 :: x148 :: x149 :: x150 :: x151 :: x152 :: x153 :: x154 :: x155 :: x156 :: x157 :: x158 :: x159 :: x160 :: x161 :: x162 :: x163 :: x164 :: x165 :: x166 :: x167 :: x168 :: x169 :: x170 :: x171 :: x172 :: x173 :: x174 :: x175 :: x176 :: x177 :: x178 :: x179 :: x180 :: x181 :: x182 :: x183 :: x184 :: x185 :: x186 :: x187 :: x188 :: x189 :: x190 :: x191 :: x192 :: x193 :: x194 :: x195 :: x196 :: x197 :: x198 :: x199 :: x200 :: x201 :: x202 :: x203 :: x204 :: x205 :: x206 :: x207 :: x208 :: x209 :: x210 :: x211 :: x212 :: x213 :: x214 :: x215 :: x216 :: x217 :: x218 :: x219 :: x220 :: x221 :: x222 :: x223 :: x224 :: x225 :: x226 :: x227 :: x228 :: x229 :: x230 :: x231 :: x232 :: x233 :: x234 :: x235 :: x236 :: x237 :: x238 :: x239 :: x240 :: x241 :: x242 :: x243 :: x244 :: x245 :: x246 :: x247 :: x248 :: x249 :: x250 :: x251 :: x252 :: x253 :: x254 :: x255 :: x256 :: x257 :: x258 :: x259 :: x260 :: x261 :: x262 :: x263 :: x264 :: x265 :: x266 :: x267 :: x268 :: x269 :: x270 :: x271 :: x272 :: x273 :: x274 :: x275 :: x276 :: x277 :: []), []⟩ w7 := by
  conv => arg 2; whnf
  have HE7 := hid HE7
  have HAD := hid hadj
  have HPN := hid hpn
  clear hadj hpn
  go_loopw [12] (fun v wr => ∃ k : Nat, v = .int .i64 ((k : Int) + 1) ∧ k + 1 ≤ pn ∧ Below w7.heap.size w7 wr) (fun v _ => pn - (intOf v).toNat)
  case atStart => exact ⟨0, rfl, by omega, Below.rf _⟩
  case round =>
    obtain ⟨k, rfl, hk, hB⟩ := hrel
    have HB := hid hB
    have HE := hid (HE7.out.below hB)
    clear hB
    have e0 := HE.out.d0
    have hdx := HE.out.dl
    have r0 : (wr).cell? ⟨rb, 0, none⟩ = some (.int .i64 (q.r)) := HE.out.r.is 0 (by omega)
    have r2 : (wr).cell? ⟨rb, 2, none⟩ = some (.int .i64 (q.t)) := HE.out.r.is 2 (by omega)
    have hrx := HE.out.r.lt
    by_cases hkn : k + 1 < pn
    · have dk : decide ((k : Int) + 1 < (pn : Int)) = true := by simp; omega
      have dkn : decide (k + 1 < pn) = true := by simp; omega
      have hj1 : k < path.length := by rw [HPN.out]; omega
      have hg1 : path[k]? = some path[k] := List.getElem?_eq_getElem hj1
      have hj2 : k + 1 < path.length := by rw [HPN.out]; omega
      have hg2 : path[k + 1]? = some path[k + 1] := List.getElem?_eq_getElem hj2
      generalize path[k] = c1 at *
      generalize path[k + 1] = c2 at *
      obtain ⟨bk, ba, n', cap', hv, hbl, -, cq1⟩ := HE.out.pp.row k _ hg1
      obtain ⟨bk2, ba2, n2', cap2', hv2, -, -, cq2⟩ := HE.out.pp.row (k + 1) _ hg2
      have hv3 := hv.symm.trans hv2
      simp only [Value.slice.injEq, Option.some.injEq, Addr.mk.injEq] at hv hv3
      obtain ⟨⟨rfl, rfl, -⟩, -, -⟩ := hv3
      obtain ⟨rfl, -, -⟩ := hv
      have had := HAD.out k c1 c2 hg1 hg2
      have AJ : Hid (∀ w' : World, Below wr.heap.size wr w' → Calls Try.prog 21 #[.pointer (some ⟨fb, 0, none⟩), .int .i64 (c1), .int .i64 (c2)] w' fun e w'' => e = .returned (.bool (F.adj c1 c2)) ∧ w'' = w') := fun w' h => adjacent_any fb F lab c1 c2 w' (HE.out.below h).f
      clear hv2 hj1 hg1 hj2 hg2
      by_cases hcc : c2 = c1
      · have d1 : (c2 != c1) = false := by simp [hcc]
        clear had hcc
        go_wp2
        first | with_reducible refine wp_region_ext2 (by kernel_rfl) (by kernel_rfl) ?_ | refine wp_region_ext (by kernel_rfl) (by kernel_rfl) ?_
        repeat (go_big_quiet_step (fail))
        refine wpQuiet_nil ?_
        rintro _ ⟨z, rfl⟩
        go_wp2
        go_roundw
        case rel => exact ⟨k + 1, by go_num, by omega, HB.out.trans ((World.below_ext wr z).mono HB.out.size)⟩
        case measure => (simp [intOf] <;> omega)
      · have d1 : (c2 != c1) = true := by simp [hcc]
        have ha : F.adj c1 c2 = true := had.resolve_left hcc
        rw [ha] at AJ
        clear had hcc ha
        go_wp2
        first | with_reducible refine wp_region_ext2 (by kernel_rfl) (by kernel_rfl) ?_ | refine wp_region_ext (by kernel_rfl) (by kernel_rfl) ?_
        repeat (go_big_quiet_step ((go_at_call 21; exact Calls.ext_of_same (AJ.out _ (by (repeat (first | with_reducible exact Below.rf _ | with_reducible exact World.below_ext _ _ | with_reducible refine Below.ex ?_ _ | with_reducible refine Below.al ?_ _ | with_reducible refine Below.setCell ?_ (by simp) _ | with_reducible refine Below.drew ?_)))))))
        refine wpQuiet_nil ?_
        rintro _ ⟨z, rfl⟩
        go_wp2
        go_roundw
        case rel => exact ⟨k + 1, by go_num, by omega, HB.out.trans ((World.below_ext wr z).mono HB.out.size)⟩
        case measure => (simp [intOf] <;> omega)
    · have dk : decide ((k : Int) + 1 < (pn : Int)) = false := by simp; omega
      have dkn : decide (k + 1 < pn) = false := by simp; omega
      go_wp2
      exact ⟨HB.out, pickU rfl⟩
end Go.Proofs.Qxb6500716a
