/-
  VerifyAgrees: the loop over the plans, cut out.
-/
import Derived.Test.Qxb6500716aVh
import Derived.Test.Qxb6500716aVf
import Derived.Test.Qxb6500716aWd
import Derived.WalkSpells
namespace Go.Proofs.Qxb6500716a
open Go.RowKit Go.Maps
set_option linter.unusedSimpArgs false
set_option linter.unusedVariables false
set_option maxRecDepth 20000
set_option maxHeartbeats 4000000
theorem getD_I64' {l : List Int} (h : ∀ c, c ∈ l → I64 c) (i : Nat) : I64 (l.getD i 0) := by
  rw [List.getD_eq_getElem?_getD]
  cases hi : l[i]? with
  | none => simp [I64]
  | some y => exact h y (List.mem_of_getElem? hi)
set_option maxRecDepth 1000000 in
set_option maxHeartbeats 400000000 in
theorem pl_loop (w7 : World) (lab : Nat → Nat) (d rb mb fb n0 n : Nat) (F : FS) (T : TS) (M : TM) (N : PM) (S : PS) (D : Dk) (q : Rq) (gv v : Value) (L : List Plx)
    (hPn : Pn w7 lab d rb D q gv v L) (hF : FAt w7 lab fb F) (hT : TAt w7 lab M T) (hPA : PAt w7 lab N fb M.t S n0) (hM : MoAt w7 mb fb M.t) (hd2 : w7.cell? ⟨d, 2, none⟩ = some (.pointer (some ⟨N.p, 0, none⟩))) (hdl : d < w7.heap.size) (hTI : TInv T) (hTC : T.Cel) (hnr : T.nr = F.bays.length) (hnc : T.nc = F.n) (hrc : L ≠ [] → rcode F T q = 0) (hn : L.length = n)
    (Q0 : Exit → Act → World → Prop) (x0 x1 x2 x5 x6 x7 x8 x9 x10 x11 x12 x14 x15 x16 x17 x18 x19 x20 x21 x22 x23 x24 x25 x26 x27 x28 x29 x30 x31 x32 x33 x34 x35 x36 x37 x38 x39 x40 x41 x42 x43 x44 x45 x46 x47 x48 x49 x50 x51 x52 x53 x54 x55 x56 x57 x58 x59 x60 x61 x62 x63 x64 x65 x66 x67 x68 x69 x70 x71 x72 x73 x74 x75 x76 x77 x78 x79 x80 x81 x82 x83 x84 x85 x86 x87 x88 x89 x90 x91 x92 x93 x94 x95 x96 x97 x98 x99 x100 x101 x102 x103 x104 x105 x106 x107 x108 x109 x110 x111 x112 x113 x114 x115 x116 x117 x118 x119 x120 x121 x122 x123 x124 x125 x126 x127 x128 x129 x130 x131 x132 x133 x134 x135 x136 x137 x138 x139 x140 x141 x142 x143 x144 x145 x146 x147 x148 x149 x150 x151 x152 x153 x154 x155 x156 x157 x158 x159 x160 x161 x162 x163 x164 x165 x166 x167 x168 x169 x170 x171 x172 x173 x174 x175 x176 x177 x178 x179 x180 x184 x185 x186 x187 x188 x189 x190 x191 x192 x193 x194 x195 x196 x197 x198 x199 x200 x201 : Value)
    (hexit : ∀ (a' : Act) (w'' : World), (Below w7.heap.size w7 w'' ∧ ∃ UPL : Nat → Value, a' = ⟨List.toArray (x0 :: x1 :: UPL 2 :: .pointer (some ⟨d, 0, none⟩) :: .pointer (some ⟨rb, 0, none⟩) :: x5 :: x6 :: x7 :: x8 :: x9 :: x10 :: x11 :: x12 :: .pointer (some ⟨mb, 0, none⟩) :: x14 :: UPL 15 :: x16 :: x17 :: x18 :: x19 :: x20 :: x21 :: x22 :: x23 :: x24 :: x25 :: x26 :: x27 :: x28 :: x29 :: x30 :: x31 :: x32 :: x33 :: x34 :: x35 :: x36 :: x37 :: x38 :: x39 :: x40 :: x41 :: x42 :: x43 :: x44 :: x45 :: x46 :: x47 :: x48 :: x49 :: x50 :: x51 :: x52 :: x53 :: x54 :: x55 :: x56 :: x57 :: x58 :: x59 :: x60 :: x61 :: x62 :: x63 :: x64 :: x65 :: x66 :: x67 :: x68 :: x69 :: x70 :: x71 :: x72 :: x73 :: x74 :: x75 :: x76 :: x77 :: x78 :: x79 :: x80 :: x81 :: x82 :: x83 :: x84 :: x85 :: x86 :: x87 :: x88 :: x89 :: x90 :: x91 :: x92 :: x93 :: x94 :: x95 :: x96 :: x97 :: x98 :: x99 :: x100 :: x101 :: x102 :: x103 :: x104 :: x105 :: x106 :: x107 :: x108 :: x109 :: x110 :: x111 :: x112 :: x113 :: x114 :: x115 :: x116 :: x117 :: x118 :: x119 :: x120 :: x121 :: x122 :: x123 :: x124 :: x125 :: x126 :: x127 :: x128 :: x129 :: x130 :: x131 :: x132 :: x133 :: x134 :: x135 :: x136 :: x137 :: x138 :: x139 :: x140 :: x141 :: x142 :: x143 :: x144 :: x145 :: x146 :: x147 :: x148 :: x149 :: x150 :: x151 :: x152 :: x153 :: x154 :: x155 :: x156 :: x157 :: x158 :: x159 :: x160 :: x161 :: x162 :: x163 :: x164 :: x165 :: x166 :: x167 :: x168 :: x169 :: x170 :: x171 :: x172 :: x173 :: x174 :: x175 :: x176 :: x177 :: x178 :: x179 :: x180 :: v :: .int .i64 (n) :: UPL 183 :: UPL 184 :: UPL 185 :: UPL 186 :: UPL 187 :: UPL 188 :: UPL 189 :: UPL 190 :: UPL 191 :: UPL 192 :: UPL 193 :: UPL 194 :: UPL 195 :: UPL 196 :: UPL 197 :: UPL 198 :: UPL 199 :: UPL 200 :: x201 :: []), []⟩) → Q0 (.exit 6) a' w'') :
    Code.wp Try.prog ((Try.f9.body.bind (findBlock 6)).getD .skip) Q0 ⟨List.toArray (x0 :: x1 :: x2 :: .pointer (some ⟨d, 0, none⟩) :: .pointer (some ⟨rb, 0, none⟩) :: x5 :: x6 :: x7 :: x8 :: x9 :: x10 :: x11 :: x12 :: .pointer (some ⟨mb, 0, none⟩) :: x14 :: x15 :: x16 :: x17 :: x18 :: x19 :: x20 :: x21 :: x22 :: x23 :: x24 :: x25 :: x26 :: x27 :: x28 :: x29 :: x30 :: x31 :: x32 :: x33 :: x34 :: x35 :: x36 :: x37 :: x38 :: x39 :: x40 :: x41 :: x42 :: x43 :: x44 :: x45 :: x46 :: x47 :: x48 :: x49 :: x50 :: x51 :: x52 :: x53 :: x54 :: x55 :: x56 :: x57 :: x58 :: x59 :: x60 :: x61 :: x62 :: x63 :: x64 :: x65 :: x66 :: x67 :: x68 :: x69 :: x70 :: x71 :: x72 :: x73 :: x74 :: x75 :: x76 :: x77 :: x78 :: x79 :: x80 :: x81 :: x82 :: x83 :: x84 :: x85 :: x86 :: x87 :: x88 :: x89 :: x90 :: x91 :: x92 :: x93 :: x94 :: x95 :: x96 :: x97 :: x98 :: x99 :: x100 :: x101 :: x102 :: x103 :: x104 :: x105 :: x106 :: x107 :: x108 :: x109 :: x110 :: x111 :: x112 :: x113 :: x114 :: x115 :: x116 :: x117 :: x118 :: x119 :: x120 :: x121 :: x122 :: x123 :: x124 :: x125 :: x126 :: x127 :: x128 :: x129 :: x130 :: x131 :: x132 :: x133 :: x134 :: x135 :: x136 :: x137 :: x138 :: x139 :: x140 :: x141 :: x142 :: x143 :: x144 :: x145 :: x146 :: x147 :: x148 :: x149 :: x150 :: x151 :: x152 :: x153 :: x154 :: x155 :: x156 :: x157 :: x158 :: x159 :: x160 :: x161 :: x162 :: x163 :: x164 :: x165 :: x166 :: x167 :: x168 :: x169 :: x170 :: x171 :: x172 :: x173 :: x174 :: x175 :: x176 :: x177 :: x178 :: x179 :: x180 :: v :: .int .i64 (n) :: .int .i64 (0) :: x184 :: x185 :: x186 :: x187 :: x188 :: x189 :: x190 :: x191 :: x192 :: x193 :: x194 :: x195 :: x196 :: x197 :: x198 :: x199 :: x200 :: x201 :: []), []⟩ w7 := by
  conv => arg 2; whnf
  have HPn := hid hPn
  have HF := hid hF
  have HT := hid hT
  have HPA := hid hPA
  have HM := hid hM
  have HTI := hid hTI
  have HTC := hid hTC
  have HNR := hid hnr
  have HNC := hid hnc
  have HRC := hid hrc
  have HN := hid hn
  have hn7 : n ≤ 7 := by rw [← hn]; exact hPn.len
  clear hPn hF hT hPA hM hTI hTC hnr hnc hrc hn
  go_loopw [183] (fun v wr => ∃ k : Nat, v = .int .i64 (k) ∧ k ≤ n ∧ Below w7.heap.size w7 wr) (fun v _ => n - (intOf v).toNat)
  case atStart => exact ⟨0, rfl, Nat.zero_le _, Below.rf _⟩
  case round =>
    obtain ⟨k, rfl, hk, hB⟩ := hrel
    have HB := hid hB
    by_cases hkn : k < n
    · have dk : decide ((k : Int) < (n : Int)) = true := by simp; omega
      have dkn : decide (k < n) = true := by simp; omega
      have hkl : k < L.length := by rw [HN.out]; exact hkn
      have hpk : L[k]? = some L[k] := List.getElem?_eq_getElem hkl
      have hLne : L ≠ [] := fun h => by rw [h] at hkl; simp at hkl
      have hrc := HRC.out hLne
      have hPr := HPn.out.below hB
      obtain ⟨b, cap, hv, hcap, hbl, y0, y1, y2, y3, y4⟩ := hPr.see hpk
      have hg := HPn.out.pl L[k] (List.getElem_mem hkl)
      generalize L[k] = p at *
      rw [HN.out] at hv hcap
      subst hv
      obtain ⟨pC, pT, pX, pV, dV, path, done⟩ := p
      simp only at y0 y1 y2 y3 y4
      obtain ⟨po, pc, hpo, -⟩ := hg.ip.ex
      obtain ⟨dq, dc, hdo, -⟩ := hg.id.ex
      simp only at hpo hdo
      subst hpo hdo
      have HPG := hid hg
      have c2 := (World.cell?_of_block (hB.block d hdl)).trans hd2
      have hdr := Nat.lt_of_lt_of_le hdl hB.size
      have HPr := hid hPr
      clear hPr hg hB hkl hpk hLne
      go_wp2
      refine wp_nm fun w3 hw3 => ?_
      have hb3 : Below wr.heap.size wr w3 := by rw [hw3]; (repeat (first | with_reducible exact Below.rf _ | with_reducible exact World.below_ext _ _ | with_reducible refine Below.ex ?_ _ | with_reducible refine Below.al ?_ _ | with_reducible refine Below.setCell ?_ (by simp) _ | with_reducible refine Below.drew ?_))
      have p0 : w3.cell? ⟨wr.heap.size, 0, none⟩ = some (.int .u8 pC) := by rw [hw3]; simp [go_sem, ↓IntWalk.iteOmega]
      have p1 : w3.cell? ⟨wr.heap.size, 1, none⟩ = some (.int .i64 (pT)) := by rw [hw3]; simp [go_sem, ↓IntWalk.iteOmega]
      have p2 : w3.cell? ⟨wr.heap.size, 2, none⟩ = some (.slice po path.length pc) := by rw [hw3]; simp [go_sem, ↓IntWalk.iteOmega]
      have p3 : w3.cell? ⟨wr.heap.size, 3, none⟩ = some (.slice dq done.length dc) := by rw [hw3]; simp [go_sem, ↓IntWalk.iteOmega]
      have p4 : w3.cell? ⟨wr.heap.size, 4, none⟩ = some (.int .i64 (pX)) := by rw [hw3]; simp [go_sem, ↓IntWalk.iteOmega]
      have p5 : wr.heap.size < w3.heap.size := by rw [hw3]; (simp <;> omega)
      obtain ⟨pb, hpb⟩ : ∃ y, wr.heap.size = y := ⟨_, rfl⟩
      rw [hpb] at p0 p1 p2 p3 p4 p5 ⊢
      have HBW3 := hid (HB.out.trans (hb3.mono HB.out.size))
      have z2 := (World.cell?_of_block (hb3.block d hdr)).trans c2
      have hR3 := (HPr.out.below hb3).rq
      have r0 : w3.cell? ⟨rb, 0, none⟩ = some (.int .i64 (q.r)) := hR3.is 0 (by omega)
      have r1 : w3.cell? ⟨rb, 1, none⟩ = some (.int .i64 (q.s)) := hR3.is 1 (by omega)
      have r2 : w3.cell? ⟨rb, 2, none⟩ = some (.int .i64 (q.t)) := hR3.is 2 (by omega)
      have r3 : w3.cell? ⟨rb, 3, none⟩ = some gv := hR3.is 3 (by omega)
      have r4 : w3.cell? ⟨rb, 4, none⟩ = some (.int .i64 (q.h)) := hR3.is 4 (by omega)
      have r5 : w3.cell? ⟨rb, 5, none⟩ = some (.int .i64 (q.m)) := hR3.is 5 (by omega)
      have hrl := hR3.lt
      have hd3 := Nat.lt_of_lt_of_le hdr hb3.size
      have hrk := rok_of HF.out.ok hrc
      have hvv := ver_val HF.out.ok HTI.out HTC.out HNR.out HNC.out hrc pC pT path done HPG.out.len
      have hbs := HT.out.bd.base
      have hqt := hrk.t
      obtain ⟨vr, hvr⟩ : ∃ y, ver F T q pC pT path done = y := ⟨_, rfl⟩
      obtain ⟨bl, hbl⟩ : ∃ y, val F T q pC pT path done = y := ⟨_, rfl⟩
      rw [hvr, hbl] at hvv
      have VE : Hid (∀ w', Below w3.heap.size w3 w' → Calls Try.prog 41 #[.pointer (some ⟨N.p, 0, none⟩), .agg #[.int .i64 ((q).r), .int .i64 ((q).s), .int .i64 ((q).t), gv, .int .i64 ((q).h), .int .i64 ((q).m)], .agg #[.int .u8 (pC), .int .i64 (pT), .slice po path.length pc, .slice dq done.length dc, .int .i64 (pX)]] w' fun e w'' => e = .returned (.int .i64 (vr)) ∧ ∃ z, w'' = w'.ext z) := fun w' h => by
        have h := HBW3.out.trans (h.mono HBW3.out.size)
        have := verify_any M T N S n0 fb F lab q gv pC pT pX (.slice po path.length pc) (.slice dq done.length dc) path done w' (HF.out.below h) (HT.out.below h) (HPA.out.below h) (HPn.out.g.below h) HPn.out.i.r (HPG.out.below h).ip (HPG.out.below h).id HPG.out.len HPG.out.t (fun i => getD_I64' HPG.out.ip.i64 i) HPG.out.dn
        rw [hvr] at this
        exact this
      have VA : Hid (∀ w', Below w3.heap.size w3 w' → Calls Try.prog 16 #[.pointer (some ⟨mb, 0, none⟩), .agg #[.int .i64 ((q).r), .int .i64 ((q).s), .int .i64 ((q).t), gv, .int .i64 ((q).h), .int .i64 ((q).m)], .agg #[.int .u8 (pC), .int .i64 (pT), .slice po path.length pc, .slice dq done.length dc, .int .i64 (pX)]] w' fun e w'' => e = .returned (.bool bl) ∧ ∃ z, w'' = w'.ext z) := fun w' h => by
        have h := HBW3.out.trans (h.mono HBW3.out.size)
        have := valid_any16 mb fb M F T lab q gv pC pT pX (.slice po path.length pc) (.slice dq done.length dc) path done w' (HF.out.below h) (HT.out.below h) (HM.out.below h) (HPn.out.g.below h) HPn.out.i.r (HPG.out.below h).ip (HPG.out.below h).id HPG.out.len (by omega) hrk.gok HPG.out.dn
        rw [hbl] at this
        exact this
      clear hw3 hb3 hpb y0 y1 y2 y3 y4 c2 hdr hR3 hrk hrc hvr hbl hbs hqt HPr HPG
      cases bl with
      | true =>
        obtain rfl : vr = 0 := hvv.2 rfl
        clear hvv
        go_wp2
        first | with_reducible refine wp_region_ext2 (by kernel_rfl) (by kernel_rfl) ?_ | refine wp_region_ext (by kernel_rfl) (by kernel_rfl) ?_
        repeat (go_big_quiet_step ((first | (go_at_call 41; with_reducible exact Calls.ext_of (VE.out _ (by (repeat (first | with_reducible exact Below.rf _ | with_reducible exact World.below_ext _ _ | with_reducible refine Below.ex ?_ _ | with_reducible refine Below.al ?_ _ | with_reducible refine Below.setCell ?_ (by simp) _ | with_reducible refine Below.drew ?_))))) | (go_at_call 16; with_reducible exact Calls.ext_of (VA.out _ (by (repeat (first | with_reducible exact Below.rf _ | with_reducible exact World.below_ext _ _ | with_reducible refine Below.ex ?_ _ | with_reducible refine Below.al ?_ _ | with_reducible refine Below.setCell ?_ (by simp) _ | with_reducible refine Below.drew ?_))))))))
        refine wpQuiet_nil ?_
        rintro w4 ⟨z, hw2⟩
        have HB4 : Hid (Below w7.heap.size w7 w4) := HBW3.out.trans (Below.mono (by rw [hw2]; exact World.below_ext _ _) HBW3.out.size)
        clear hw2
        go_wp2
        go_roundw
        case rel => exact ⟨k + 1, by go_num, by omega, HB4.out⟩
        case measure => (simp [intOf] <;> omega)
      | false =>
        have hv0 : (vr == 0) = false := by
          rw [beq_eq_false_iff_ne]
          exact fun h => by cases hvv.1 h
        clear hvv
        go_wp2
        first | with_reducible refine wp_region_ext2 (by kernel_rfl) (by kernel_rfl) ?_ | refine wp_region_ext (by kernel_rfl) (by kernel_rfl) ?_
        repeat (go_big_quiet_step ((first | (go_at_call 41; with_reducible exact Calls.ext_of (VE.out _ (by (repeat (first | with_reducible exact Below.rf _ | with_reducible exact World.below_ext _ _ | with_reducible refine Below.ex ?_ _ | with_reducible refine Below.al ?_ _ | with_reducible refine Below.setCell ?_ (by simp) _ | with_reducible refine Below.drew ?_))))) | (go_at_call 16; with_reducible exact Calls.ext_of (VA.out _ (by (repeat (first | with_reducible exact Below.rf _ | with_reducible exact World.below_ext _ _ | with_reducible refine Below.ex ?_ _ | with_reducible refine Below.al ?_ _ | with_reducible refine Below.setCell ?_ (by simp) _ | with_reducible refine Below.drew ?_))))))))
        refine wpQuiet_nil ?_
        rintro w4 ⟨z, hw2⟩
        have HB4 : Hid (Below w7.heap.size w7 w4) := HBW3.out.trans (Below.mono (by rw [hw2]; exact World.below_ext _ _) HBW3.out.size)
        clear hw2
        go_wp2
        go_roundw
        case rel => exact ⟨k + 1, by go_num, by omega, HB4.out⟩
        case measure => (simp [intOf] <;> omega)
    · have dk : decide ((k : Int) < (n : Int)) = false := by simp; omega
      have dkn : decide (k < n) = false := by simp; omega
      go_wp2
      exact ⟨HB.out, pickU rfl⟩
end Go.Proofs.Qxb6500716a
