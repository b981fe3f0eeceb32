/-
  VerifyAgrees: the loop over the tables with an intruder, cut out.
-/
import Derived.Test.Qxb6500716aIx
import Derived.Test.Qxb6500716aVg
import Derived.Test.Qxb6500716aWd
import Derived.Test.Qxb6500716aLo
import Derived.Test.Qxb6500716aQa
import Derived.WalkSpells
namespace Go.Proofs.Qxb6500716a
open Go.RowKit Go.Maps
set_option linter.unusedSimpArgs false
set_option linter.unusedVariables false
set_option maxRecDepth 20000
set_option maxHeartbeats 4000000
theorem Ints.below {w w' : World} {lab : Nat → Nat} {v : Value} {l : List Int} (h : Ints w lab v l) (hb : Below w.heap.size w w') : Ints w' lab v l := h.keptL (A := fun _ => False) (KeptL.of_below hb) (fun _ h => h.elim)
/-- What is checked of one plan at one table. -/
structure Vq (F : FS) (q : Rq) (path done : List Int) (t : Int) : Prop where
  len : path.length ≤ 1000
  t : -4000000000 ≤ t ∧ t ≤ 4000000000
  qt : -4000000000 ≤ q.t ∧ q.t ≤ 4000000000
  dn : ∀ y, y ∈ done → -8000000000 ≤ y ∧ y ≤ 8000000000
  i : RqI q
  gok : F.gok q.gl
theorem getD_I64 {l : List Int} (h : ∀ c, c ∈ l → I64 c) (i : Nat) : I64 (l.getD i 0) := by
  rw [List.getD_eq_getElem?_getD]
  cases hi : l[i]? with
  | none => simp [I64]
  | some y => exact h y (List.mem_of_getElem? hi)
/-- A table of the list, for every world behind. -/
theorem OV.look {w0 w7 : World} {tv : Value} {T : TS} {n : Nat} (h : OV w0 w7 tv T n) (hn : 0 < n) : ∃ b cap, tv = .slice (some ⟨b, 0, none⟩) n cap ∧ n ≤ cap ∧ b < w7.heap.size ∧ ∀ k, k < n → ∃ (M : TM) (lab : Nat → Nat) (T' : TS), w7.cell? ⟨b, k, none⟩ = some (.pointer (some ⟨M.t, 0, none⟩)) ∧ TAt w7 lab M T' ∧ TK T T' ∧ (∀ b, b < w0.heap.size → lab b = 0) := by
  obtain ⟨L, lo, hL⟩ := h
  obtain ⟨b, cap, e1, e2, e3, -, e4⟩ := hL.lst.see hn
  refine ⟨b, cap, e1, e2, e3, fun k hk => ?_⟩
  have hkl : k < L.length := by rw [hL.len]; exact hk
  obtain ⟨h1, h2, h3, -⟩ := hL.tb L[k] (List.getElem_mem hkl)
  exact ⟨L[k].M, L[k].lab, L[k].T, e4 k _ (by rw [List.getElem?_map, List.getElem?_eq_getElem hkl]; rfl), h1, h2, h3⟩
def d42S (d fb : Nat) (q : Rq) (gv pv dv : Value) (c t x : Int) (w : World) : Prop :=
  (w).cell? ⟨d, 0, none⟩ = some (.pointer (some ⟨fb, 0, none⟩)) ∧ (w).cell? ⟨d, 4, none⟩ = some (.int .i64 (q.r)) ∧ (w).cell? ⟨d, 5, none⟩ = some (.int .i64 (q.s)) ∧ (w).cell? ⟨d, 6, none⟩ = some (.int .i64 (q.t)) ∧ (w).cell? ⟨d, 7, none⟩ = some gv ∧ (w).cell? ⟨d, 8, none⟩ = some (.int .i64 (q.h)) ∧ (w).cell? ⟨d, 9, none⟩ = some (.int .i64 (q.m)) ∧ (w).cell? ⟨d, 10, none⟩ = some (.int .u8 c) ∧ (w).cell? ⟨d, 11, none⟩ = some (.int .i64 (t)) ∧ (w).cell? ⟨d, 12, none⟩ = some pv ∧ (w).cell? ⟨d, 13, none⟩ = some dv ∧ (w).cell? ⟨d, 14, none⟩ = some (.int .i64 (x))
theorem D42.s {w : World} {d fb : Nat} {q : Rq} {gv pv dv : Value} {c t x : Int} (h : D42 w d fb q gv pv dv c t x) : d42S d fb q gv pv dv c t x w := ⟨h.c0, h.c4, h.c5, h.c6, h.c7, h.c8, h.c9, h.c10, h.c11, h.c12, h.c13, h.c14⟩
set_option maxRecDepth 1000000 in
set_option maxHeartbeats 400000000 in
theorem tl_loop (w0 w7 : World) (lab : Nat → Nat) (d fb : Nat) (F : FS) (T : TS) (q : Rq) (gv pv dv : Value) (c t x : Int) (path done : List Int) (tv : Value)
    (hD : D42 w0 d fb q gv pv dv c t x) (hF : FAt w0 lab fb F) (hg : GAt w0 lab gv q.gl) (hp : Ints w0 lab pv path) (hd : Ints w0 lab dv done) (hO : OV w0 w7 tv T 4) (hTI : TInv T) (hTC : T.Cel) (hnr : T.nr = F.bays.length) (hnc : T.nc = F.n) (hrc : rcode F T q = 0) (hV : Vq F q path done t)
    (Q0 : Exit → Act → World → Prop) (x0 x1 x2 x4 x5 x6 x7 x8 x9 x10 x11 x12 x13 x14 x15 x16 x17 x18 x19 x20 x21 x22 x23 x24 x25 x26 x27 x28 x29 x30 x31 x32 x33 x34 x35 x36 x37 x38 x39 x40 x41 x42 x43 x44 x45 x46 x47 x48 x49 x50 x51 x52 x53 x54 x55 x56 x57 x58 x59 x60 x61 x62 x63 x64 x65 x66 x67 x68 x69 x70 x71 x72 x73 x74 x75 x79 x80 x81 x82 x83 x84 x85 x86 x87 x88 x89 x90 x91 x92 x93 x94 x95 x96 x97 x98 x99 x100 x101 x102 x103 x104 x105 x106 x107 x108 x109 x110 x111 x112 x113 x114 x115 x116 x117 x118 x119 x120 x121 x122 x123 x124 x125 x126 x127 x128 x129 x130 x131 x132 x133 x134 x135 x136 x137 x138 x139 x140 x141 x142 x143 x144 x145 x146 x147 x148 x149 x150 x151 x152 x153 x154 x155 x156 x157 x158 x159 x160 x161 x162 x163 x164 x165 x166 x167 x168 x169 x170 x171 x172 x173 x174 x175 x176 x177 x178 x179 x180 x181 x182 x183 x184 x185 x186 x187 x188 x189 x190 x191 x192 x193 x194 x195 x196 x197 x198 x199 x200 x201 : Value)
    (hexit : ∀ (a' : Act) (w'' : World), (Below w7.heap.size w7 w'' ∧ ∃ UTL : Nat → Value, a' = ⟨List.toArray (x0 :: x1 :: UTL 2 :: .pointer (some ⟨d, 0, none⟩) :: x4 :: x5 :: x6 :: x7 :: x8 :: UTL 9 :: UTL 10 :: UTL 11 :: x12 :: x13 :: x14 :: x15 :: x16 :: x17 :: x18 :: x19 :: x20 :: x21 :: x22 :: x23 :: x24 :: x25 :: x26 :: x27 :: x28 :: x29 :: x30 :: x31 :: x32 :: x33 :: x34 :: x35 :: x36 :: x37 :: x38 :: x39 :: x40 :: x41 :: x42 :: x43 :: x44 :: x45 :: x46 :: x47 :: x48 :: x49 :: x50 :: x51 :: x52 :: x53 :: x54 :: x55 :: x56 :: x57 :: x58 :: x59 :: x60 :: x61 :: x62 :: x63 :: x64 :: x65 :: x66 :: x67 :: x68 :: x69 :: x70 :: x71 :: x72 :: x73 :: x74 :: x75 :: tv :: .int .i64 (4) :: UTL 78 :: UTL 79 :: UTL 80 :: UTL 81 :: UTL 82 :: UTL 83 :: UTL 84 :: UTL 85 :: UTL 86 :: UTL 87 :: UTL 88 :: UTL 89 :: UTL 90 :: UTL 91 :: UTL 92 :: UTL 93 :: UTL 94 :: UTL 95 :: UTL 96 :: UTL 97 :: UTL 98 :: UTL 99 :: UTL 100 :: UTL 101 :: UTL 102 :: UTL 103 :: UTL 104 :: UTL 105 :: UTL 106 :: UTL 107 :: UTL 108 :: UTL 109 :: UTL 110 :: UTL 111 :: UTL 112 :: UTL 113 :: UTL 114 :: UTL 115 :: UTL 116 :: UTL 117 :: x118 :: x119 :: x120 :: x121 :: x122 :: x123 :: x124 :: x125 :: x126 :: x127 :: x128 :: x129 :: x130 :: x131 :: x132 :: x133 :: x134 :: x135 :: x136 :: x137 :: x138 :: x139 :: x140 :: x141 :: x142 :: x143 :: x144 :: x145 :: x146 :: x147 :: x148 :: x149 :: x150 :: x151 :: x152 :: x153 :: x154 :: x155 :: x156 :: x157 :: x158 :: x159 :: x160 :: x161 :: x162 :: x163 :: x164 :: x165 :: x166 :: x167 :: x168 :: x169 :: x170 :: x171 :: x172 :: x173 :: x174 :: x175 :: x176 :: x177 :: x178 :: x179 :: x180 :: x181 :: x182 :: x183 :: x184 :: x185 :: x186 :: x187 :: x188 :: x189 :: x190 :: x191 :: x192 :: x193 :: x194 :: x195 :: x196 :: x197 :: x198 :: x199 :: x200 :: x201 :: []), []⟩) → Q0 (.exit 2) a' w'') :
    Code.wp Try.prog ((Try.f9.body.bind (findBlock 2)).getD .skip) Q0 ⟨List.toArray (x0 :: x1 :: x2 :: .pointer (some ⟨d, 0, none⟩) :: x4 :: x5 :: x6 :: x7 :: x8 :: x9 :: x10 :: x11 :: x12 :: x13 :: x14 :: x15 :: x16 :: x17 :: x18 :: x19 :: x20 :: x21 :: x22 :: x23 :: x24 :: x25 :: x26 :: x27 :: x28 :: x29 :: x30 :: x31 :: x32 :: x33 :: x34 :: x35 :: x36 :: x37 :: x38 :: x39 :: x40 :: x41 :: x42 :: x43 :: x44 :: x45 :: x46 :: x47 :: x48 :: x49 :: x50 :: x51 :: x52 :: x53 :: x54 :: x55 :: x56 :: x57 :: x58 :: x59 :: x60 :: x61 :: x62 :: x63 :: x64 :: x65 :: x66 :: x67 :: x68 :: x69 :: x70 :: x71 :: x72 :: x73 :: x74 :: x75 :: tv :: .int .i64 (4) :: .int .i64 (0) :: x79 :: x80 :: x81 :: x82 :: x83 :: x84 :: x85 :: x86 :: x87 :: x88 :: x89 :: x90 :: x91 :: x92 :: x93 :: x94 :: x95 :: x96 :: x97 :: x98 :: x99 :: x100 :: x101 :: x102 :: x103 :: x104 :: x105 :: x106 :: x107 :: x108 :: x109 :: x110 :: x111 :: x112 :: x113 :: x114 :: x115 :: x116 :: x117 :: x118 :: x119 :: x120 :: x121 :: x122 :: x123 :: x124 :: x125 :: x126 :: x127 :: x128 :: x129 :: x130 :: x131 :: x132 :: x133 :: x134 :: x135 :: x136 :: x137 :: x138 :: x139 :: x140 :: x141 :: x142 :: x143 :: x144 :: x145 :: x146 :: x147 :: x148 :: x149 :: x150 :: x151 :: x152 :: x153 :: x154 :: x155 :: x156 :: x157 :: x158 :: x159 :: x160 :: x161 :: x162 :: x163 :: x164 :: x165 :: x166 :: x167 :: x168 :: x169 :: x170 :: x171 :: x172 :: x173 :: x174 :: x175 :: x176 :: x177 :: x178 :: x179 :: x180 :: x181 :: x182 :: x183 :: x184 :: x185 :: x186 :: x187 :: x188 :: x189 :: x190 :: x191 :: x192 :: x193 :: x194 :: x195 :: x196 :: x197 :: x198 :: x199 :: x200 :: x201 :: []), []⟩ w7 := by
  conv => arg 2; whnf
  have h07 := hO.bl
  obtain ⟨tb, tc, htv, htc, htl, hlk⟩ := hO.look (by omega)
  subst htv
  have HLK := hid hlk
  have HDD := hid hD
  have HF := hid hF
  have HG := hid hg
  have HP := hid hp
  have HDN := hid hd
  have HTI := hid hTI
  have HTC := hid hTC
  have HNR := hid hnr
  have HNC := hid hnc
  have HRC := hid hrc
  have HV := hid hV
  have H07 := hid h07
  clear hlk hD hF hg hp hd hO hTI hTC hnr hnc hrc hV h07
  go_loopw [78] (fun v wr => ∃ k : Nat, v = .int .i64 (k) ∧ k ≤ 4 ∧ Below w7.heap.size w7 wr) (fun v _ => 4 - (intOf v).toNat)
  case atStart => exact ⟨0, rfl, Nat.zero_le _, Below.rf _⟩
  case round =>
    obtain ⟨k, rfl, hk, hB⟩ := hrel
    have HB := hid hB
    have h0r := H07.out.trans (hB.mono H07.out.size)
    have hDr := HDD.out.below h0r
    by_cases hkn : k < 4
    · have dk : decide ((k : Int) < 4) = true := by simp; omega
      have dkn : decide (k < 4) = true := by simp; omega
      obtain ⟨M, lb, T', y0, y1, y2, y3⟩ := HLK.out k hkn
      have y0' := (World.cell?_of_block (hB.block tb htl)).trans y0
      have htlr := Nat.lt_of_lt_of_le htl hB.size
      have e0 := hDr.c0
      have hdl := hDr.lt
      have HT' := hid (y1.below hB)
      have HTK := hid y2
      have HLB := hid y3
      have H0R := hid h0r
      have HDR := hid hDr
      clear y0 y1 y2 y3 hB h0r hDr
      go_wp2
      refine wp_nm fun w3 hw3 => ?_
      have hb3 : Below wr.heap.size wr w3 := by rw [hw3]; (repeat (first | with_reducible exact Below.rf _ | with_reducible exact World.below_ext _ _ | with_reducible refine Below.ex ?_ _ | with_reducible refine Below.al ?_ _ | with_reducible refine Below.setCell ?_ (by simp) _ | with_reducible refine Below.drew ?_))
      have m3 : MoAt w3 wr.heap.size fb M.t := by
        rw [hw3]
        exact ⟨by simp [go_sem, ↓IntWalk.iteOmega], by simp [go_sem, ↓IntWalk.iteOmega], by simp <;> omega⟩
      obtain ⟨mb, hmb⟩ : ∃ y, wr.heap.size = y := ⟨_, rfl⟩
      rw [hmb] at m3 ⊢
      have h03 := H0R.out.trans (hb3.mono H0R.out.size)
      have HBW3 := hid (HB.out.trans (hb3.mono HB.out.size))
      have HD3 := hid (HDD.out.below h03)
      have HT3 := hid (HT'.out.below hb3)
      have HM3 := hid m3
      have h0l : ∀ b, b < w0.heap.size → (lab b = 0 ∨ 10 ≤ lab b) → (lb b = 0 ∨ 10 ≤ lb b) := fun b hb _ => Or.inl (HLB.out b hb)
      have HF3 : Hid (FAt w3 lb fb F) := (HF.out.relab h0l).below h03
      have HG3 : Hid (GAt w3 lb gv q.gl) := (HG.out.relab h0l).below h03
      have HP3 : Hid (Ints w3 lb pv path) := (HP.out.relab h0l).below h03
      have HQ3 : Hid (Ints w3 lb dv done) := (HDN.out.relab h0l).below h03
      have hrb := (rok_of HF3.out.ok HRC.out).t
      have hrc' : rcode F T' q = 0 := rcode_slid HRC.out (Nat.le_of_eq HTK.out.base.symm) (by rw [HTK.out.base]; exact hrb.1)
      have hvv := ver_val HF3.out.ok (HTK.out.inv HTI.out) (HTK.out.cel HTC.out) (HTK.out.fx.nr.trans HNR.out) (HTK.out.fx.nc.trans HNC.out) hrc' c t path done HV.out.len
      obtain ⟨vr, hvr⟩ : ∃ y, ver F T' q c t path done = y := ⟨_, rfl⟩
      obtain ⟨bl, hbl⟩ : ∃ y, val F T' q c t path done = y := ⟨_, rfl⟩
      rw [hvr, hbl] at hvv
      have NP : Hid (∀ w', Below w3.heap.size w3 w' → Calls Try.prog 37 #[.pointer (some ⟨fb, 0, none⟩), .pointer (some ⟨M.t, 0, none⟩)] w' fun e w'' => ∃ np, e = .returned (.pointer (some ⟨np, 0, none⟩)) ∧ Below w3.heap.size w3 w'' ∧ ∀ w4, Below w''.heap.size w'' w4 → Calls Try.prog 41 #[.pointer (some ⟨np, 0, none⟩), .agg #[.int .i64 ((q).r), .int .i64 ((q).s), .int .i64 ((q).t), gv, .int .i64 ((q).h), .int .i64 ((q).m)], .agg #[.int .u8 (c), .int .i64 (t), pv, dv, .int .i64 (x)]] w4 fun e w5 => e = .returned (.int .i64 (vr)) ∧ ∃ z, w5 = w4.ext z) := fun w' h => by
        refine (newP_any fb M.t lb w').mono ?_
        rintro e w'' ⟨lab', N, rfl, hPA, -, hl', hb''⟩
        refine ⟨N.p, rfl, h.trans (hb''.mono h.size), fun w4 h4 => ?_⟩
        have hl2 : ∀ b, b < w'.heap.size → (lb b = 0 ∨ 10 ≤ lb b) → (lab' b = 0 ∨ 10 ≤ lab' b) := fun b hb hx => by rw [hl' b hb]; exact hx
        have := verify_any M T' N PS.new 0 fb F lab' q gv c t x pv dv path done w4 ((((HF3.out.below h).relab hl2).below hb'').below h4) ((((HT3.out.below h).relab hl').below hb'').below h4) (hPA.below h4) ((((HG3.out.below h).relab hl2).below hb'').below h4) HV.out.i.r ((((HP3.out.below h).relab hl2).below hb'').below h4) ((((HQ3.out.below h).relab hl2).below hb'').below h4) HV.out.len HV.out.t (fun i => getD_I64 HP3.out.i64 i) HV.out.dn
        rw [hvr] at this
        exact this
      have VA : Hid (∀ w', Below w3.heap.size w3 w' → Calls Try.prog 16 #[.pointer (some ⟨mb, 0, none⟩), .agg #[.int .i64 ((q).r), .int .i64 ((q).s), .int .i64 ((q).t), gv, .int .i64 ((q).h), .int .i64 ((q).m)], .agg #[.int .u8 (c), .int .i64 (t), pv, dv, .int .i64 (x)]] w' fun e w'' => e = .returned (.bool bl) ∧ ∃ z, w'' = w'.ext z) := fun w' h => by
        have := valid_any16 mb fb M F T' lb q gv c t x pv dv path done w' (HF3.out.below h) (HT3.out.below h) (HM3.out.below h) (HG3.out.below h) HV.out.i.r (HP3.out.below h) (HQ3.out.below h) HV.out.len HV.out.qt HV.out.gok HV.out.dn
        rw [hbl] at this
        exact this
      have SX : Hid (∀ w', Below w3.heap.size w3 w' → (w').cell? ⟨d, 0, none⟩ = some (.pointer (some ⟨fb, 0, none⟩)) ∧ (w').cell? ⟨d, 4, none⟩ = some (.int .i64 (q.r)) ∧ (w').cell? ⟨d, 5, none⟩ = some (.int .i64 (q.s)) ∧ (w').cell? ⟨d, 6, none⟩ = some (.int .i64 (q.t)) ∧ (w').cell? ⟨d, 7, none⟩ = some gv ∧ (w').cell? ⟨d, 8, none⟩ = some (.int .i64 (q.h)) ∧ (w').cell? ⟨d, 9, none⟩ = some (.int .i64 (q.m)) ∧ (w').cell? ⟨d, 10, none⟩ = some (.int .u8 c) ∧ (w').cell? ⟨d, 11, none⟩ = some (.int .i64 (t)) ∧ (w').cell? ⟨d, 12, none⟩ = some pv ∧ (w').cell? ⟨d, 13, none⟩ = some dv ∧ (w').cell? ⟨d, 14, none⟩ = some (.int .i64 (x))) := fun w' h => (HD3.out.below h).s
      obtain ⟨e0, e4, e5, e6, e7, e8, e9, e10, e11, e12, e13, e14⟩ := SX.out w3 (Below.rf _)
      have hdl3 := HD3.out.lt
      clear m3 h0l hrb hrc' hvr hbl y0' htlr hdl HT' HTK HLB H0R HDR HD3 HT3 HM3 HF3 HG3 HP3 HQ3 h03 hmb hw3 hb3
      cases bl with
      | true =>
        obtain rfl : vr = 0 := hvv.2 rfl
        clear hvv
        go_region_held3 (fun w' => (w').cell? ⟨d, 0, none⟩ = some (.pointer (some ⟨fb, 0, none⟩)) ∧ (w').cell? ⟨d, 4, none⟩ = some (.int .i64 (q.r)) ∧ (w').cell? ⟨d, 5, none⟩ = some (.int .i64 (q.s)) ∧ (w').cell? ⟨d, 6, none⟩ = some (.int .i64 (q.t)) ∧ (w').cell? ⟨d, 7, none⟩ = some gv ∧ (w').cell? ⟨d, 8, none⟩ = some (.int .i64 (q.h)) ∧ (w').cell? ⟨d, 9, none⟩ = some (.int .i64 (q.m)) ∧ (w').cell? ⟨d, 10, none⟩ = some (.int .u8 c) ∧ (w').cell? ⟨d, 11, none⟩ = some (.int .i64 (t)) ∧ (w').cell? ⟨d, 12, none⟩ = some pv ∧ (w').cell? ⟨d, 13, none⟩ = some dv ∧ (w').cell? ⟨d, 14, none⟩ = some (.int .i64 (x))) (first | assumption | simp [go_sem, ↓IntWalk.iteOmega, *]) (first | (go_at_call 37; refine (NP.out _ (by (repeat (first | with_reducible exact Below.rf _ | with_reducible exact World.below_ext _ _ | with_reducible refine Below.ex ?_ _ | with_reducible refine Below.al ?_ _ | with_reducible refine Below.setCell ?_ (by simp) _ | with_reducible refine Below.drew ?_)))).mono ?_; rintro e w5 ⟨np, rfl, hb5, hv5⟩; have s5 := SX.out w5 hb5) | (go_at_call 41; refine (hv5 _ (by (repeat (first | with_reducible exact Below.rf _ | with_reducible exact World.below_ext _ _ | with_reducible refine Below.ex ?_ _ | with_reducible refine Below.al ?_ _ | with_reducible refine Below.setCell ?_ (by simp) _ | with_reducible refine Below.drew ?_)))).mono ?_; rintro e w6 ⟨rfl, z6, rfl⟩; have s6 := SX.out (w5.ext z6) (hb5.trans (Below.mono (World.below_ext _ _) hb5.size))))
        refine x_nm fun w6 hw6 => ?_
        have b36 : Below w3.heap.size w3 w6 := hb5.trans (Below.mono (by rw [hw6]; (repeat (first | with_reducible exact Below.rf _ | with_reducible exact World.below_ext _ _ | with_reducible refine Below.ex ?_ _ | with_reducible refine Below.al ?_ _ | with_reducible refine Below.setCell ?_ (by simp) _ | with_reducible refine Below.drew ?_))) hb5.size)
        clear hw6 hv5 hb5 s5 s6 e0 e4 e5 e6 e7 e8 e9 e10 e11 e12 e13 e14
        obtain ⟨e0, e4, e5, e6, e7, e8, e9, e10, e11, e12, e13, e14⟩ := SX.out w6 b36
        have hdl6 := Nat.lt_of_lt_of_le hdl3 b36.size
        have VA6 : Hid (∀ w', Below w6.heap.size w6 w' → Calls Try.prog 16 #[.pointer (some ⟨mb, 0, none⟩), .agg #[.int .i64 ((q).r), .int .i64 ((q).s), .int .i64 ((q).t), gv, .int .i64 ((q).h), .int .i64 ((q).m)], .agg #[.int .u8 (c), .int .i64 (t), pv, dv, .int .i64 (x)]] w' fun e w'' => e = .returned (.bool _) ∧ ∃ z, w'' = w'.ext z) := fun w' h => VA.out w' (b36.trans (h.mono b36.size))
        have HB36 := hid b36
        clear b36 VA NP SX hdl3
        go_wp2
        first | with_reducible refine wp_region_ext2 (by kernel_rfl) (by kernel_rfl) ?_ | refine wp_region_ext (by kernel_rfl) (by kernel_rfl) ?_
        repeat (go_big_quiet_step ((go_at_call 16; with_reducible exact Calls.ext_of (VA6.out _ (by (repeat (first | with_reducible exact Below.rf _ | with_reducible exact World.below_ext _ _ | with_reducible refine Below.ex ?_ _ | with_reducible refine Below.al ?_ _ | with_reducible refine Below.setCell ?_ (by simp) _ | with_reducible refine Below.drew ?_)))))))
        refine wpQuiet_nil ?_
        rintro w7' ⟨z, hw2⟩
        have HB4 : Hid (Below w7.heap.size w7 w7') := by
          have h1 := HBW3.out.trans (HB36.out.mono HBW3.out.size)
          exact h1.trans (Below.mono (by rw [hw2]; exact World.below_ext _ _) h1.size)
        clear hw2
        go_wp2
        go_roundw
        case rel => exact ⟨k + 1, by go_num, by omega, HB4.out⟩
        case measure => (simp [intOf] <;> omega)
      | false =>
        have hv0 : (vr == 0) = false := by
          rw [beq_eq_false_iff_ne]
          exact fun h => by cases hvv.1 h
        clear hvv
        go_region_held3 (fun w' => (w').cell? ⟨d, 0, none⟩ = some (.pointer (some ⟨fb, 0, none⟩)) ∧ (w').cell? ⟨d, 4, none⟩ = some (.int .i64 (q.r)) ∧ (w').cell? ⟨d, 5, none⟩ = some (.int .i64 (q.s)) ∧ (w').cell? ⟨d, 6, none⟩ = some (.int .i64 (q.t)) ∧ (w').cell? ⟨d, 7, none⟩ = some gv ∧ (w').cell? ⟨d, 8, none⟩ = some (.int .i64 (q.h)) ∧ (w').cell? ⟨d, 9, none⟩ = some (.int .i64 (q.m)) ∧ (w').cell? ⟨d, 10, none⟩ = some (.int .u8 c) ∧ (w').cell? ⟨d, 11, none⟩ = some (.int .i64 (t)) ∧ (w').cell? ⟨d, 12, none⟩ = some pv ∧ (w').cell? ⟨d, 13, none⟩ = some dv ∧ (w').cell? ⟨d, 14, none⟩ = some (.int .i64 (x))) (first | assumption | simp [go_sem, ↓IntWalk.iteOmega, *]) (first | (go_at_call 37; refine (NP.out _ (by (repeat (first | with_reducible exact Below.rf _ | with_reducible exact World.below_ext _ _ | with_reducible refine Below.ex ?_ _ | with_reducible refine Below.al ?_ _ | with_reducible refine Below.setCell ?_ (by simp) _ | with_reducible refine Below.drew ?_)))).mono ?_; rintro e w5 ⟨np, rfl, hb5, hv5⟩; have s5 := SX.out w5 hb5) | (go_at_call 41; refine (hv5 _ (by (repeat (first | with_reducible exact Below.rf _ | with_reducible exact World.below_ext _ _ | with_reducible refine Below.ex ?_ _ | with_reducible refine Below.al ?_ _ | with_reducible refine Below.setCell ?_ (by simp) _ | with_reducible refine Below.drew ?_)))).mono ?_; rintro e w6 ⟨rfl, z6, rfl⟩; have s6 := SX.out (w5.ext z6) (hb5.trans (Below.mono (World.below_ext _ _) hb5.size))))
        refine x_nm fun w6 hw6 => ?_
        have b36 : Below w3.heap.size w3 w6 := hb5.trans (Below.mono (by rw [hw6]; (repeat (first | with_reducible exact Below.rf _ | with_reducible exact World.below_ext _ _ | with_reducible refine Below.ex ?_ _ | with_reducible refine Below.al ?_ _ | with_reducible refine Below.setCell ?_ (by simp) _ | with_reducible refine Below.drew ?_))) hb5.size)
        clear hw6 hv5 hb5 s5 s6 e0 e4 e5 e6 e7 e8 e9 e10 e11 e12 e13 e14
        obtain ⟨e0, e4, e5, e6, e7, e8, e9, e10, e11, e12, e13, e14⟩ := SX.out w6 b36
        have hdl6 := Nat.lt_of_lt_of_le hdl3 b36.size
        have VA6 : Hid (∀ w', Below w6.heap.size w6 w' → Calls Try.prog 16 #[.pointer (some ⟨mb, 0, none⟩), .agg #[.int .i64 ((q).r), .int .i64 ((q).s), .int .i64 ((q).t), gv, .int .i64 ((q).h), .int .i64 ((q).m)], .agg #[.int .u8 (c), .int .i64 (t), pv, dv, .int .i64 (x)]] w' fun e w'' => e = .returned (.bool _) ∧ ∃ z, w'' = w'.ext z) := fun w' h => VA.out w' (b36.trans (h.mono b36.size))
        have HB36 := hid b36
        clear b36 VA NP SX hdl3
        go_wp2
        first | with_reducible refine wp_region_ext2 (by kernel_rfl) (by kernel_rfl) ?_ | refine wp_region_ext (by kernel_rfl) (by kernel_rfl) ?_
        repeat (go_big_quiet_step ((go_at_call 16; with_reducible exact Calls.ext_of (VA6.out _ (by (repeat (first | with_reducible exact Below.rf _ | with_reducible exact World.below_ext _ _ | with_reducible refine Below.ex ?_ _ | with_reducible refine Below.al ?_ _ | with_reducible refine Below.setCell ?_ (by simp) _ | with_reducible refine Below.drew ?_)))))))
        refine wpQuiet_nil ?_
        rintro w7' ⟨z, hw2⟩
        have HB4 : Hid (Below w7.heap.size w7 w7') := by
          have h1 := HBW3.out.trans (HB36.out.mono HBW3.out.size)
          exact h1.trans (Below.mono (by rw [hw2]; exact World.below_ext _ _) h1.size)
        clear hw2
        go_wp2
        go_roundw
        case rel => exact ⟨k + 1, by go_num, by omega, HB4.out⟩
        case measure => (simp [intOf] <;> omega)
    · have dk : decide ((k : Int) < 4) = false := by simp; omega
      have dkn : decide (k < 4) = false := by simp; omega
      go_wp2
      exact ⟨HB.out, pickU rfl⟩
end Go.Proofs.Qxb6500716a
