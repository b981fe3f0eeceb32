/-
  VerifyAgrees: the loop that makes the tampered plans, cut out.
-/
import Derived.Test.Qxb6500716aOp
import Derived.Test.Qxb6500716aTw
import Derived.Test.Qxb6500716aIx
import Derived.WalkSpells
namespace Go.Proofs.Qxb6500716a
open Go.RowKit Go.Maps
set_option linter.unusedSimpArgs false
set_option linter.unusedVariables false
set_option maxRecDepth 20000
set_option maxHeartbeats 4000000
theorem pcs_at {w : World} {b : Nat} {p : Plx} (h0 : w.cell? ⟨b, 0, none⟩ = some (.int .u8 p.c)) (h1 : w.cell? ⟨b, 1, none⟩ = some (.int .i64 (p.t))) (h2 : w.cell? ⟨b, 2, none⟩ = some p.pv) (h3 : w.cell? ⟨b, 3, none⟩ = some p.dv) (h4 : w.cell? ⟨b, 4, none⟩ = some (.int .i64 (p.x))) : ∀ (j : Nat) u, p.pcs[j]? = some u → w.cell? ⟨b, j, none⟩ = some u
  | 0, u, h => by simp [Plx.pcs] at h; rw [← h]; exact h0
  | 1, u, h => by simp [Plx.pcs] at h; rw [← h]; exact h1
  | 2, u, h => by simp [Plx.pcs] at h; rw [← h]; exact h2
  | 3, u, h => by simp [Plx.pcs] at h; rw [← h]; exact h3
  | 4, u, h => by simp [Plx.pcs] at h; rw [← h]; exact h4
  | j + 5, u, h => by simp [Plx.pcs] at h
theorem pcs_one {p : Plx} (h1 : p.pv.oneCell' = true) (h2 : p.dv.oneCell' = true) : ∀ u ∈ p.pcs, u.oneCell' = true := fun u hu => by
  simp only [Plx.pcs, List.mem_cons, List.not_mem_nil, or_false] at hu
  rcases hu with rfl | rfl | rfl | rfl | rfl
  · rfl
  · rfl
  · exact h1
  · exact h2
  · rfl
set_option maxRecDepth 1000000 in
set_option maxHeartbeats 400000000 in
theorem tm_loop (wA w7 : World) (lab : Nat → Nat) (d fb ob i cC cD cE : Nat) (F : FS) (q : Rq) (gv pv dv v0 : Value) (c t x B : Int) (path done : List Int) (p0 : Plx)
    (hD : D42 wA d fb q gv pv dv c t x) (hF : FAt wA lab fb F) (hp : Ints wA lab pv path) (hd : Ints wA lab dv done) (hO : OPX wA w7 v0 p0 0) (hob : ob < wA.heap.size) (o3 : wA.cell? ⟨ob, 3, none⟩ = some (.int .i64 (cC))) (o4 : wA.cell? ⟨ob, 4, none⟩ = some (.int .i64 (cD))) (o5 : wA.cell? ⟨ob, 5, none⟩ = some (.int .i64 (cE)))
    (hpl : 1 ≤ path.length ∧ path.length ≤ 900) (hdl : done.length ≤ 1000) (ht : -2000000000 ≤ t ∧ t ≤ 2000000000) (hB : 0 ≤ B ∧ B ≤ 4000000000) (hdb : ∀ y, y ∈ done → -B ≤ y ∧ y ≤ B) (hi : i ≤ 1000000) (hc3 : cC ≤ 4000000000) (hc4 : cD ≤ 4000000000) (hc5 : cE ≤ 4000000000)
    (Q0 : Exit → Act → World → Prop) (x0 x1 x2 x4 x8 x9 x10 x11 x13 x14 x15 x16 x17 x18 x19 x20 x21 x22 x23 x24 x25 x26 x27 x28 x29 x30 x31 x32 x33 x34 x35 x36 x37 x38 x39 x40 x41 x42 x43 x44 x45 x46 x47 x48 x49 x50 x51 x52 x53 x54 x55 x56 x57 x58 x59 x60 x61 x62 x63 x64 x65 x66 x67 x68 x69 x70 x71 x72 x73 x74 x75 x76 x77 x78 x79 x80 x81 x82 x83 x84 x85 x86 x87 x88 x89 x90 x91 x92 x93 x94 x95 x96 x97 x98 x99 x100 x101 x102 x103 x104 x105 x106 x107 x108 x109 x110 x111 x112 x113 x114 x115 x116 x117 x118 x119 x120 x121 x122 x123 x124 x125 x126 x127 x128 x129 x130 x131 x132 x133 x134 x135 x136 x137 x138 x139 x140 x141 x142 x143 x144 x145 x146 x147 x148 x149 x150 x151 x152 x153 x154 x155 x156 x157 x158 x159 x160 x161 x162 x163 x164 x165 x166 x167 x168 x169 x170 x171 x172 x173 x174 x175 x176 x177 x178 x179 x180 x181 x182 x183 x184 x185 x186 x187 x188 x189 x190 x191 x192 x193 x194 x195 x196 x197 x198 x199 x200 x201 : Value)
    (hexit : ∀ (a' : Act) (w'' : World), (∃ v5, OPX wA w'' v5 p0 6 ∧ ∃ UTM : Nat → Value, a' = ⟨List.toArray (x0 :: x1 :: x2 :: .pointer (some ⟨d, 0, none⟩) :: x4 :: v5 :: .int .i64 (i) :: .pointer (some ⟨ob, 0, none⟩) :: x8 :: x9 :: x10 :: x11 :: UTM 12 :: x13 :: x14 :: x15 :: x16 :: x17 :: x18 :: x19 :: x20 :: x21 :: x22 :: x23 :: x24 :: x25 :: x26 :: x27 :: x28 :: x29 :: x30 :: x31 :: x32 :: x33 :: x34 :: x35 :: x36 :: x37 :: x38 :: x39 :: x40 :: x41 :: x42 :: x43 :: x44 :: x45 :: x46 :: x47 :: x48 :: x49 :: x50 :: x51 :: x52 :: x53 :: x54 :: x55 :: x56 :: x57 :: x58 :: x59 :: x60 :: x61 :: x62 :: x63 :: x64 :: x65 :: x66 :: x67 :: x68 :: x69 :: x70 :: x71 :: x72 :: x73 :: x74 :: x75 :: x76 :: x77 :: x78 :: x79 :: x80 :: x81 :: x82 :: x83 :: x84 :: x85 :: x86 :: x87 :: x88 :: x89 :: x90 :: x91 :: x92 :: x93 :: x94 :: x95 :: x96 :: x97 :: x98 :: x99 :: x100 :: x101 :: x102 :: x103 :: x104 :: x105 :: x106 :: x107 :: x108 :: x109 :: x110 :: x111 :: x112 :: x113 :: x114 :: x115 :: x116 :: x117 :: x118 :: x119 :: x120 :: x121 :: x122 :: x123 :: x124 :: x125 :: x126 :: UTM 127 :: UTM 128 :: UTM 129 :: UTM 130 :: UTM 131 :: UTM 132 :: UTM 133 :: UTM 134 :: UTM 135 :: UTM 136 :: UTM 137 :: UTM 138 :: UTM 139 :: UTM 140 :: UTM 141 :: UTM 142 :: UTM 143 :: UTM 144 :: UTM 145 :: UTM 146 :: UTM 147 :: UTM 148 :: UTM 149 :: UTM 150 :: UTM 151 :: UTM 152 :: UTM 153 :: UTM 154 :: UTM 155 :: x156 :: x157 :: x158 :: x159 :: x160 :: x161 :: x162 :: x163 :: x164 :: x165 :: x166 :: x167 :: x168 :: x169 :: x170 :: x171 :: x172 :: x173 :: x174 :: x175 :: x176 :: x177 :: x178 :: x179 :: x180 :: x181 :: x182 :: x183 :: x184 :: x185 :: x186 :: x187 :: x188 :: x189 :: x190 :: x191 :: x192 :: x193 :: x194 :: x195 :: x196 :: x197 :: x198 :: x199 :: x200 :: x201 :: []), []⟩) → Q0 (.exit 4) a' w'') :
    Code.wp Try.prog ((Try.f9.body.bind (findBlock 4)).getD .skip) Q0 ⟨List.toArray (x0 :: x1 :: x2 :: .pointer (some ⟨d, 0, none⟩) :: x4 :: v0 :: .int .i64 (i) :: .pointer (some ⟨ob, 0, none⟩) :: x8 :: x9 :: x10 :: x11 :: .int .i64 (0) :: x13 :: x14 :: x15 :: x16 :: x17 :: x18 :: x19 :: x20 :: x21 :: x22 :: x23 :: x24 :: x25 :: x26 :: x27 :: x28 :: x29 :: x30 :: x31 :: x32 :: x33 :: x34 :: x35 :: x36 :: x37 :: x38 :: x39 :: x40 :: x41 :: x42 :: x43 :: x44 :: x45 :: x46 :: x47 :: x48 :: x49 :: x50 :: x51 :: x52 :: x53 :: x54 :: x55 :: x56 :: x57 :: x58 :: x59 :: x60 :: x61 :: x62 :: x63 :: x64 :: x65 :: x66 :: x67 :: x68 :: x69 :: x70 :: x71 :: x72 :: x73 :: x74 :: x75 :: x76 :: x77 :: x78 :: x79 :: x80 :: x81 :: x82 :: x83 :: x84 :: x85 :: x86 :: x87 :: x88 :: x89 :: x90 :: x91 :: x92 :: x93 :: x94 :: x95 :: x96 :: x97 :: x98 :: x99 :: x100 :: x101 :: x102 :: x103 :: x104 :: x105 :: x106 :: x107 :: x108 :: x109 :: x110 :: x111 :: x112 :: x113 :: x114 :: x115 :: x116 :: x117 :: x118 :: x119 :: x120 :: x121 :: x122 :: x123 :: x124 :: x125 :: x126 :: x127 :: x128 :: x129 :: x130 :: x131 :: x132 :: x133 :: x134 :: x135 :: x136 :: x137 :: x138 :: x139 :: x140 :: x141 :: x142 :: x143 :: x144 :: x145 :: x146 :: x147 :: x148 :: x149 :: x150 :: x151 :: x152 :: x153 :: x154 :: x155 :: x156 :: x157 :: x158 :: x159 :: x160 :: x161 :: x162 :: x163 :: x164 :: x165 :: x166 :: x167 :: x168 :: x169 :: x170 :: x171 :: x172 :: x173 :: x174 :: x175 :: x176 :: x177 :: x178 :: x179 :: x180 :: x181 :: x182 :: x183 :: x184 :: x185 :: x186 :: x187 :: x188 :: x189 :: x190 :: x191 :: x192 :: x193 :: x194 :: x195 :: x196 :: x197 :: x198 :: x199 :: x200 :: x201 :: []), []⟩ w7 := by
  conv => arg 2; whnf
  have HDD := hid hD
  have HF := hid hF
  have HP := hid hp
  have HDN := hid hd
  have HO := hid hO
  have HPL := hid hpl
  have HDL := hid hdl
  have HDB := hid hdb
  have hfn := hF.ok.n
  have CE : Hid (∀ w' : World, Below wA.heap.size wA w' → Calls Try.prog 30 #[.pointer (some ⟨fb, 0, none⟩)] w' fun e w'' => e = .returned (.int .i64 (F.n)) ∧ w'' = w') := fun w' h => cells_any fb F lab w' (HF.out.below h)
  have SX : Hid (∀ w', Below wA.heap.size wA w' → (w').cell? ⟨d, 0, none⟩ = some (.pointer (some ⟨fb, 0, none⟩)) ∧ (w').cell? ⟨d, 10, none⟩ = some (.int .u8 c) ∧ (w').cell? ⟨d, 11, none⟩ = some (.int .i64 (t)) ∧ (w').cell? ⟨d, 12, none⟩ = some pv ∧ (w').cell? ⟨d, 13, none⟩ = some dv ∧ (w').cell? ⟨d, 14, none⟩ = some (.int .i64 (x)) ∧ (w').cell? ⟨ob, 3, none⟩ = some (.int .i64 (cC)) ∧ (w').cell? ⟨ob, 4, none⟩ = some (.int .i64 (cD)) ∧ (w').cell? ⟨ob, 5, none⟩ = some (.int .i64 (cE))) := fun w' h => by
    have h1 := HDD.out.below h
    have h2 := h.block ob hob
    exact ⟨h1.c0, h1.c10, h1.c11, h1.c12, h1.c13, h1.c14, (World.cell?_of_block h2).trans o3, (World.cell?_of_block h2).trans o4, (World.cell?_of_block h2).trans o5⟩
  have TA : Hid (∀ (w' : World) (how wh wt : Nat), Below wA.heap.size wA w' → how < 6 → wh ≤ 4611686018427387904 → wt ≤ 4611686018427387904 → Calls Try.prog 43 #[.agg #[.int .u8 (c), .int .i64 (t), pv, dv, .int .i64 (x)], .int .i64 (F.n), .int .i64 (how), .int .i64 (wh), .int .i64 (wt)] w' (tamPost c t x B path.length done.length w')) := fun w' how wh wt h h1 h2 h3 =>
    tamper_any c t x B pv dv path done F.n how wh wt lab w' (HP.out.keptL (A := fun _ => False) (KeptL.of_below h) (fun _ h => h.elim)) (HDN.out.keptL (A := fun _ => False) (KeptL.of_below h) (fun _ h => h.elim)) ⟨HPL.out.1, by have := HPL.out.2; omega⟩ HDL.out (by omega) hB HDB.out (by omega) h2 h3 h1
  have hdA := HDD.out.lt
  clear hD hF hp hd hO hpl hdl hdb o3 o4 o5
  go_loopw [5, 12] (fun v y wr => ∃ k : Nat, y = .int .i64 (k) ∧ k ≤ 6 ∧ OPX wA wr v p0 k) (fun _ y _ => 6 - (intOf y).toNat)
  case atStart => exact ⟨0, rfl, Nat.zero_le _, HO.out⟩
  case round =>
    obtain ⟨k, rfl, hk, hOr⟩ := hrel
    have HOR := hid hOr
    have HBr := hid hOr.bl
    clear hOr
    by_cases hkn : k < 6
    · have dk : decide ((k : Int) < 6) = true := by simp; omega
      have dkn : decide (k < 6) = true := by simp; omega
      obtain ⟨e0, e10, e11, e12, e13, e14, f3, f4, f5⟩ := SX.out wr HBr.out
      have hdr := Nat.lt_of_lt_of_le hdA HBr.out.size
      have hor := Nat.lt_of_lt_of_le hob HBr.out.size
      have TR : Hid (∀ (w' : World) (xh xt : Int), Below wr.heap.size wr w' → (0 ≤ xh ∧ xh ≤ 4611686018427387904) → (0 ≤ xt ∧ xt ≤ 4611686018427387904) → Calls Try.prog 43 #[.agg #[.int .u8 (c), .int .i64 (t), pv, dv, .int .i64 (x)], .int .i64 (F.n), .int .i64 (k), .int .i64 (xh), .int .i64 (xt)] w' fun e w'' => ∃ (t' : Int) (po' dq' : Option Addr) (pn' pc' dn' dc' : Nat) (path' done' : List Int), e = .returned (.agg #[.int .u8 (c), .int .i64 (t'), .slice po' pn' pc', .slice dq' dn' dc', .int .i64 (x)]) ∧ Below wr.heap.size wr w'' ∧ Below wA.heap.size wA w'' ∧ Tp w'' wr.heap.size ⟨c, t', x, .slice po' pn' pc', .slice dq' dn' dc', path', done'⟩) := fun w' xh xt h h1 h2 => by
        obtain ⟨wh, rfl⟩ : ∃ y : Nat, xh = y := ⟨xh.toNat, by omega⟩
        obtain ⟨wt, rfl⟩ : ∃ y : Nat, xt = y := ⟨xt.toNat, by omega⟩
        refine (TA.out w' k wh wt (HBr.out.trans (h.mono HBr.out.size)) hkn (by omega) (by omega)).mono ?_
        rintro e w5 ⟨t', pv', dv', path', done', rfl, hb5, hop5, hod5, ht5, hl5, hi5, hdl5, hdn5⟩
        obtain ⟨po', pc', hpo⟩ := hop5.val rfl
        obtain ⟨dq', dc', hdq⟩ := hod5.val rfl
        subst hpo hdq
        have hpl := HPL.out.2
        have hdl := HDL.out
        have hw5 := h.trans (hb5.mono h.size)
        refine ⟨t', po', dq', _, pc', _, dc', path', done', rfl, hw5, HBr.out.trans (hw5.mono HBr.out.size), hop5.low h.size, hod5.low h.size, by simp only; omega, hi5, by simp only; omega, by simp only; omega, fun y hy => by have := hdn5 y hy; omega⟩
      have fz1 : IntKind.i64.wrap ((cE : Int) + (i : Int)) = (cE : Int) + (i : Int) := by simp [IntKind.wrap, IntKind.bits, IntKind.signed]; omega
      have fz2 : IntKind.i64.wrap ((cD : Int) + (cC : Int)) = (cD : Int) + (cC : Int) := by simp [IntKind.wrap, IntKind.bits, IntKind.signed]; omega
      have fz3 : IntKind.i64.wrap ((cD : Int) + (cC : Int) + (k : Int)) = (cD : Int) + (cC : Int) + (k : Int) := by simp [IntKind.wrap, IntKind.bits, IntKind.signed]; omega
      clear TA
      go_wp2
      go_region_held3 (fun w' => (w').cell? ⟨d, 0, none⟩ = some (.pointer (some ⟨fb, 0, none⟩)) ∧ (w').cell? ⟨d, 10, none⟩ = some (.int .u8 c) ∧ (w').cell? ⟨d, 11, none⟩ = some (.int .i64 (t)) ∧ (w').cell? ⟨d, 12, none⟩ = some pv ∧ (w').cell? ⟨d, 13, none⟩ = some dv ∧ (w').cell? ⟨d, 14, none⟩ = some (.int .i64 (x)) ∧ (w').cell? ⟨ob, 3, none⟩ = some (.int .i64 (cC)) ∧ (w').cell? ⟨ob, 4, none⟩ = some (.int .i64 (cD)) ∧ (w').cell? ⟨ob, 5, none⟩ = some (.int .i64 (cE))) (first | assumption | (exact SX.out _ (hA5.trans (Below.mono (by (repeat (first | with_reducible exact Below.rf _ | with_reducible exact World.below_ext _ _ | with_reducible refine Below.ex ?_ _ | with_reducible refine Below.al ?_ _ | with_reducible refine Below.setCell ?_ (by simp) _ | with_reducible refine Below.drew ?_))) hA5.size))) | simp [go_sem, ↓IntWalk.iteOmega, *]) (first | (go_at_call 30; refine (CE.out _ (HBr.out.trans (Below.mono (by (repeat (first | with_reducible exact Below.rf _ | with_reducible exact World.below_ext _ _ | with_reducible refine Below.ex ?_ _ | with_reducible refine Below.al ?_ _ | with_reducible refine Below.setCell ?_ (by simp) _ | with_reducible refine Below.drew ?_))) HBr.out.size))).mono ?_; rintro e w' ⟨rfl, rfl⟩) | (go_at_call 43; refine (TR.out _ _ _ (by (repeat (first | with_reducible exact Below.rf _ | with_reducible exact World.below_ext _ _ | with_reducible refine Below.ex ?_ _ | with_reducible refine Below.al ?_ _ | with_reducible refine Below.setCell ?_ (by simp) _ | with_reducible refine Below.drew ?_))) (by omega) (by omega)).mono ?_; rintro e w5 ⟨t', po', dq', pn', pc', dn', dc', path', done', rfl, hb5, hA5, hT5⟩; have s5 := SX.out w5 hA5) | (refine step_pl rfl _ _ (.agg #[.int .u8 0, .int .i64 (0), .slice none 0 0, .slice none 0 0, .int .i64 (0)]) 72 rfl Try.underlying77 (by kernel_rfl) rfl (p := ⟨c, t', x, .slice po' pn' pc', .slice dq' dn' dc', path', done'⟩) HOR.out (hb5.trans (Below.mono (by (repeat (first | with_reducible exact Below.rf _ | with_reducible exact World.below_ext _ _ | with_reducible refine Below.ex ?_ _ | with_reducible refine Below.al ?_ _ | with_reducible refine Below.setCell ?_ (by simp) _ | with_reducible refine Below.drew ?_))) hb5.size)) (hT5.below (by (repeat (first | with_reducible exact Below.rf _ | with_reducible exact World.below_ext _ _ | with_reducible refine Below.ex ?_ _ | with_reducible refine Below.al ?_ _ | with_reducible refine Below.setCell ?_ (by simp) _ | with_reducible refine Below.drew ?_)))) rfl (by omega) (by omega) _ rfl (pcs_at (by simp [go_sem, ↓IntWalk.iteOmega]) (by simp [go_sem, ↓IntWalk.iteOmega]) (by simp [go_sem, ↓IntWalk.iteOmega]) (by simp [go_sem, ↓IntWalk.iteOmega]) (by simp [go_sem, ↓IntWalk.iteOmega])) (pcs_one rfl rfl) ?_; intro v9 w9 hO9 hB9; have s9 := SX.out w9 hB9))
      have HO9 := hid hO9
      clear hO9 s9 hB9 hT5 hA5 hb5 s5
      go_wp2
      go_roundw
      case rel => exact ⟨k + 1, by go_num, by omega, HO9.out⟩
      case measure => (simp [intOf] <;> omega)
    · have dk : decide ((k : Int) < 6) = false := by simp; omega
      have dkn : decide (k < 6) = false := by simp; omega
      obtain rfl : k = 6 := by omega
      go_wp2
      exact ⟨_, HOR.out, pickU rfl⟩
end Go.Proofs.Qxb6500716a
