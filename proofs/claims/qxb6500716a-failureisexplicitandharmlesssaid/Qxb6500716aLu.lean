/-
  FailureIsExplicitAndHarmless: a round of the law, cut out.
-/
import Derived.Test.Qxb6500716aLa
import Derived.Test.Qxb6500716aLt
namespace Go.Proofs.Qxb6500716a
open Go.RowKit Go.Maps
set_option linter.unusedSimpArgs false
set_option linter.unusedVariables false
set_option maxRecDepth 20000
set_option maxHeartbeats 4000000
/-- What a round leaves. -/
def rnd7 (sb so n cap d i : Nat) (w : World) (Fr : Act → Prop) (e : Exit) (a' : Act) (w'' : World) : Prop :=
  (e = .normal ∨ e = .exit 1) ∧ (∃ (lab : Nat → Nat) (m : DM) (D : Dk), Play w w'' lab d (i + 1) m D ∧ D.inv) ∧ Fr a'
set_option maxRecDepth 1000000 in
set_option maxHeartbeats 400000000 in
theorem body7 (sb so n cap d i : Nat) (o : Nat → Opr) (lao : Nat → Option Addr) (lcap : Nat → Nat) (w wr : World) (lab : Nat → Nat) (m : DM) (D : Dk) (hS : Scr w sb so n o lao lcap) (hin : i < n) (hn1 : n ≤ 65536) (hn2 : ∀ i, i < n → (o i).l.length ≤ 65536) (hdw : w.heap.size ≤ d) (hP : Play w wr lab d i m D) (hinv : D.inv) (x0 x1 x2 x4 x5 x6 x7 x8 x9 x10 x11 x12 x13 x14 x15 x16 x17 x19 x21 x22 x23 x24 x25 x26 x27 x28 x29 x30 x31 x32 x33 x34 x35 x36 x37 x38 x39 x40 x41 x42 x43 x44 x45 x46 x47 x48 x49 x50 x51 x52 x53 x54 x55 x56 x57 x58 x59 x60 x61 x62 x63 x64 x65 x66 x67 x68 x69 x70 x71 x72 x73 x74 x75 x76 x77 x78 x79 x80 x81 x82 x83 x84 x85 x86 x87 x88 x89 x90 x91 x92 x93 x94 x95 x96 x97 x98 x99 x100 x101 x102 x103 x104 x105 x106 x107 x108 x109 x110 x111 x112 x113 x114 x115 x116 x117 x118 x119 x120 x121 x122 x123 x124 x125 x126 x127 x128 x129 x130 x131 x132 x133 x134 x135 x136 x137 x138 x139 x140 x141 x142 x143 x144 x145 x146 x147 x148 : Value) :
    Code.wp Try.prog ((Try.f7.body.bind (findBlock 1)).getD .skip) (rnd7 sb so n cap d i w (fun a' => ∃ UBO : Nat → Value, a' = ⟨List.toArray (x0 :: x1 :: UBO 2 :: .pointer (some ⟨d, 0, none⟩) :: x4 :: UBO 5 :: UBO 6 :: UBO 7 :: x8 :: UBO 9 :: UBO 10 :: UBO 11 :: UBO 12 :: x13 :: x14 :: x15 :: x16 :: x17 :: (.slice (some ⟨sb, so, none⟩) n cap) :: x19 :: .int .i64 (i) :: x21 :: UBO 22 :: UBO 23 :: UBO 24 :: UBO 25 :: UBO 26 :: UBO 27 :: UBO 28 :: UBO 29 :: UBO 30 :: UBO 31 :: UBO 32 :: UBO 33 :: UBO 34 :: UBO 35 :: UBO 36 :: UBO 37 :: UBO 38 :: UBO 39 :: UBO 40 :: UBO 41 :: UBO 42 :: UBO 43 :: UBO 44 :: UBO 45 :: UBO 46 :: UBO 47 :: UBO 48 :: UBO 49 :: UBO 50 :: UBO 51 :: UBO 52 :: UBO 53 :: UBO 54 :: UBO 55 :: UBO 56 :: UBO 57 :: UBO 58 :: UBO 59 :: UBO 60 :: UBO 61 :: UBO 62 :: UBO 63 :: UBO 64 :: UBO 65 :: UBO 66 :: UBO 67 :: UBO 68 :: UBO 69 :: UBO 70 :: UBO 71 :: UBO 72 :: UBO 73 :: UBO 74 :: UBO 75 :: UBO 76 :: UBO 77 :: UBO 78 :: UBO 79 :: UBO 80 :: UBO 81 :: UBO 82 :: UBO 83 :: UBO 84 :: UBO 85 :: UBO 86 :: UBO 87 :: UBO 88 :: UBO 89 :: UBO 90 :: UBO 91 :: UBO 92 :: UBO 93 :: UBO 94 :: UBO 95 :: UBO 96 :: UBO 97 :: UBO 98 :: UBO 99 :: UBO 100 :: UBO 101 :: UBO 102 :: UBO 103 :: UBO 104 :: UBO 105 :: UBO 106 :: UBO 107 :: UBO 108 :: UBO 109 :: UBO 110 :: UBO 111 :: UBO 112 :: UBO 113 :: UBO 114 :: UBO 115 :: UBO 116 :: UBO 117 :: UBO 118 :: UBO 119 :: UBO 120 :: UBO 121 :: UBO 122 :: UBO 123 :: UBO 124 :: UBO 125 :: UBO 126 :: UBO 127 :: UBO 128 :: UBO 129 :: UBO 130 :: UBO 131 :: UBO 132 :: UBO 133 :: UBO 134 :: UBO 135 :: UBO 136 :: UBO 137 :: UBO 138 :: UBO 139 :: UBO 140 :: UBO 141 :: UBO 142 :: UBO 143 :: UBO 144 :: UBO 145 :: UBO 146 :: UBO 147 :: x148 :: []), []⟩)) ⟨List.toArray (x0 :: x1 :: x2 :: .pointer (some ⟨d, 0, none⟩) :: x4 :: x5 :: x6 :: x7 :: x8 :: x9 :: x10 :: x11 :: x12 :: x13 :: x14 :: x15 :: x16 :: x17 :: (.slice (some ⟨sb, so, none⟩) n cap) :: x19 :: .int .i64 (i) :: x21 :: x22 :: x23 :: x24 :: x25 :: x26 :: x27 :: x28 :: x29 :: x30 :: x31 :: x32 :: x33 :: x34 :: x35 :: x36 :: x37 :: x38 :: x39 :: x40 :: x41 :: x42 :: x43 :: x44 :: x45 :: x46 :: x47 :: x48 :: x49 :: x50 :: x51 :: x52 :: x53 :: x54 :: x55 :: x56 :: x57 :: x58 :: x59 :: x60 :: x61 :: x62 :: x63 :: x64 :: x65 :: x66 :: x67 :: x68 :: x69 :: x70 :: x71 :: x72 :: x73 :: x74 :: x75 :: x76 :: x77 :: x78 :: x79 :: x80 :: x81 :: x82 :: x83 :: x84 :: x85 :: x86 :: x87 :: x88 :: x89 :: x90 :: x91 :: x92 :: x93 :: x94 :: x95 :: x96 :: x97 :: x98 :: x99 :: x100 :: x101 :: x102 :: x103 :: x104 :: x105 :: x106 :: x107 :: x108 :: x109 :: x110 :: x111 :: x112 :: x113 :: x114 :: x115 :: x116 :: x117 :: x118 :: x119 :: x120 :: x121 :: x122 :: x123 :: x124 :: x125 :: x126 :: x127 :: x128 :: x129 :: x130 :: x131 :: x132 :: x133 :: x134 :: x135 :: x136 :: x137 :: x138 :: x139 :: x140 :: x141 :: x142 :: x143 :: x144 :: x145 :: x146 :: x147 :: x148 :: []), []⟩ wr := by
  conv => arg 2; whnf
  have HS := hid hS
  have HN2 := hid hn2
  have HINV := hid hinv
  clear hS hn2 hinv
  obtain ⟨c0, c1, c2, c3, c4, c5, c6⟩ := (HS.out.below hP.bl).cells i hin
  have hsb := (HS.out.below hP.bl).hsb
  have d1 : wr.cell? ⟨d, 1, none⟩ = some m.tv := hP.dk.b.is 1 (by omega)
  have hdl := hP.dk.b.lt
  have HP := hid hP
  have hud : ∀ j, j < wr.heap.size → upd lab wr.heap.size 0 j = lab j := fun j hj => upd_ne _ _ (by omega)
  cases hW : D.W with
  | none =>
    --BEGIN N
    have htv : m.tv = .pointer none := by
      have := hP.dk.wd
      rw [hW] at this
      exact this.2.1
    rw [htv] at d1
    have hna := step_none D (o i) hW
    clear hP htv hW
    go_wp2_with (first | (go_at_call 12; refine hold ?_))
    unfold Hid
    refine calls_nm fun w4 hw4 => ?_
    have B4 : Below wr.heap.size wr w4 := by rw [hw4]; (repeat (first | with_reducible exact Below.rf _ | with_reducible exact World.below_ext _ _ | with_reducible refine Below.ex ?_ _ | with_reducible refine Below.al ?_ _ | with_reducible refine Below.setCell ?_ (by simp) _ | with_reducible refine Below.drew ?_))
    have P4 := (HP.out.relab hud).below B4
    clear hw4
    refine (P4.call HS.out hin hn1 (HN2.out i hin)).mono ?_
    rintro e w5 ⟨l5, m5, av, rfl, hD5, hIv, hl5, hk5⟩
    have P5 := P4.next (o i) hD5 hl5 hk5
    have HIV5 := hid (step_inv D (o i) HINV.out P5.fok)
    obtain ⟨D', hD'⟩ : ∃ y, (D.step (o i)).1 = y := ⟨_, rfl⟩
    rw [hD'] at P5 hna HIV5
    have d3 : w5.cell? ⟨d, 3, none⟩ = some (.bool D'.ask) := P5.dk.b.is 3 (by omega)
    rw [hna] at d3
    have hdl5 := P5.dk.b.lt
    have HP5 := hid P5
    clear hIv hD5 hl5 hk5 B4 hud P4 HP c0 c1 c2 c3 c4 c5 c6 hsb hD' d1 hdl hna P5
    go_wp2
    refine ⟨by first | exact Or.inl rfl | exact Or.inr rfl, ⟨l5, m5, D', HP5.out, HIV5.out⟩, pickU rfl⟩
    --END N
  | some X =>
    --BEGIN S
    have hw := hP.dk.wd
    rw [hW] at hw
    obtain ⟨fb0, M0, N0, n0, f1, f2, f3, -, hT2, -⟩ := hw
    rw [f2] at d1
    have HT2 := hid hT2
    have HW := hid hW
    clear hP f1 f2 f3 hT2 hW
    go_wp2_with (first | (go_at_call 19; refine hold ?_))
    unfold Hid
    refine calls_nm fun w3 hw3 => ?_
    have B3 : Below wr.heap.size wr w3 := by rw [hw3]; (repeat (first | with_reducible exact Below.rf _ | with_reducible exact World.below_ext _ _ | with_reducible refine Below.ex ?_ _ | with_reducible refine Below.al ?_ _ | with_reducible refine Below.setCell ?_ (by simp) _ | with_reducible refine Below.drew ?_))
    have X3 : Blk w3 wr.heap.size 7 (ocell (o i) (.slice (lao i) (o i).l.length (lcap i))) := by
      rw [hw3]
      refine ⟨by (simp <;> omega), fun i hi => ?_, fun i hi => by simp [go_sem, ↓IntWalk.iteOmega]⟩
      rcases (by omega : i = 0 ∨ i = 1 ∨ i = 2 ∨ i = 3 ∨ i = 4 ∨ i = 5 ∨ i = 6) with rfl | rfl | rfl | rfl | rfl | rfl | rfl <;> simp [go_sem, ↓IntWalk.iteOmega, ocell]
    have P3 := (HP.out.relab hud).below B3
    have T3 := (HT2.out.relab hud).below B3
    have hd3 := P3.dk.b.lt
    clear hw3
    refine (clone_any M0 X.T _ w3 T3).mono ?_
    rintro e w4 ⟨labc, Mc, rfl, hTc, hlc, hb4⟩
    have hud4 : ∀ j, j < w3.heap.size → (fun b => if b < w3.heap.size then upd lab wr.heap.size 0 b else 1) j = upd lab wr.heap.size 0 j := fun j hj => if_pos hj
    have P4 := (P3.relab hud4).below hb4
    have X4 := X3.below hb4
    have hx4 : (fun b => if b < w3.heap.size then upd lab wr.heap.size 0 b else 1) wr.heap.size = 0 := by
      rw [hud4 _ X3.lt]
      exact upd_at _ _ _
    have hl1 : ∀ j, w3.heap.size ≤ j → (fun b => if b < w3.heap.size then upd lab wr.heap.size 0 b else 1) j = 1 := fun j hj => if_neg (by omega)
    obtain ⟨l4, hl4⟩ : ∃ y, (fun b => if b < w3.heap.size then upd lab wr.heap.size 0 b else 1) = y := ⟨_, rfl⟩
    rw [hl4] at P4 hx4 hl1
    obtain ⟨xb, hxb⟩ : ∃ y, wr.heap.size = y := ⟨_, rfl⟩
    rw [hxb] at X4 hx4 ⊢
    have x0 : w4.cell? ⟨xb, 0, none⟩ = some (.int .i64 ((o i).K)) := X4.is 0 (by omega)
    have x1 : w4.cell? ⟨xb, 1, none⟩ = some (.int .i64 ((o i).A)) := X4.is 1 (by omega)
    have x2 : w4.cell? ⟨xb, 2, none⟩ = some (.int .i64 ((o i).B)) := X4.is 2 (by omega)
    have x3 : w4.cell? ⟨xb, 3, none⟩ = some (.int .i64 ((o i).C)) := X4.is 3 (by omega)
    have x4 : w4.cell? ⟨xb, 4, none⟩ = some (.int .i64 ((o i).D)) := X4.is 4 (by omega)
    have x5 : w4.cell? ⟨xb, 5, none⟩ = some (.int .i64 ((o i).E)) := X4.is 5 (by omega)
    have x6 : w4.cell? ⟨xb, 6, none⟩ = some (.slice (lao i) (o i).l.length (lcap i)) := X4.is 6 (by omega)
    have hxl := X4.lt
    have HP4 := hid P4
    have HX4 := hid X4
    have HTc := hid hTc
    have HWB := hid HP.out.wb
    have HFK := hid HP.out.fok
    have HLC := hid (And.intro hlc hl1)
    clear c0 c1 c2 c3 c4 c5 c6 hsb d1 hdl HP HT2 B3 X3 P3 T3 hud hud4 hl4 hxb P4 X4 hTc hb4 hlc hl1
    go_wp2_with (first | (go_at_call 12; refine hold ?_))
    unfold Hid
    refine (HP4.out.call HS.out hin hn1 (HN2.out i hin)).mono ?_
    rintro e w5 ⟨l5, m5, av, rfl, hD5, hIv, hl5, hk5⟩
    have P5 := HP4.out.next (o i) hD5 hl5 hk5
    have X5 := HX4.out.keptL hk5.k (by rw [hx4]; unfold doL; omega)
    have TC5 : TAt w5 labc Mc X.T := HTc.out.keptL (A := fun x => x = 0) (w' := w5) ⟨hk5.k.os, hk5.k.tape, hk5.k.output, hk5.size, fun k hk hk0 => by
      have h3 : w3.heap.size ≤ k := by
        rcases Nat.lt_or_ge k w3.heap.size with h | h
        · exact absurd (HLC.out.1 k h) hk0
        · exact h
      exact hk5.o k hk (HLC.out.2 k h3) (by omega)⟩ (by omega) (by omega) (by omega)
    have hsf := step_found D (o i) (fun Y hY => ⟨HFK.out Y hY, (HWB.out Y hY).ms⟩)
    have HIV5 := hid (step_inv D (o i) HINV.out P5.fok)
    have hsl := step_failed D (o i) (fun Y hY => ⟨HFK.out Y hY, (HINV.out Y hY).2, (HWB.out Y hY).mono (by omega)⟩)
    have hsa := step_again D (o i)
    obtain ⟨D', hD'⟩ : ∃ y, (D.step (o i)).1 = y := ⟨_, rfl⟩
    rw [hD'] at P5 hsf HIV5 hsl hsa
    have HTI := hid (HINV.out X HW.out).2
    have HWBX := hid (HWB.out X HW.out)
    clear HINV
    have HP5 := hid P5
    have hdl5 := P5.dk.b.lt
    have hxl5 := X5.lt
    have d3 : w5.cell? ⟨d, 3, none⟩ = some (.bool D'.ask) := P5.dk.b.is 3 (by omega)
    have d10 : w5.cell? ⟨d, 10, none⟩ = some (.int .u8 D'.pl.c) := P5.dk.b.is 10 (by omega)
    clear x0 x1 x2 x3 x4 x5 x6 hxl HP4 HX4 HTc HWB HFK HLC hIv hD5 hl5 hk5 hD' hx4 hd3
    by_cases ha : D'.ask = true
    · rw [ha] at d3
      by_cases hc : D'.pl.c = 0
      · rw [hc] at d10
        obtain ⟨X1, T', S', hX1, hX', hq, hpt, hfd, hkd⟩ := hsf ha hc
        obtain rfl : X = X1 := Option.some.inj (HW.out.symm.trans hX1)
        obtain ⟨X2, hX2, hpl⟩ := hsa ha hc
        obtain rfl : X = X2 := Option.some.inj (HW.out.symm.trans hX2)
        have hsc : (PS.search X.F X.T (rqOf (o i)) X.S).2.c = 0 := by rw [← hpl]; exact hc
        clear hsf hsl hsa ha hX1 hX2 HW
        generalize hoi : o i = oi at *
        have hw := P5.dk.wd
        rw [hX'] at hw
        obtain ⟨fb, M, N, n5, f1, f2, f3, hF, hT5, hPP⟩ := hw
        obtain ⟨po, pc, hpa, hpcc⟩ := P5.dk.pp.ex
        obtain ⟨dq, dc, hda, hdcc⟩ := P5.dk.pd.ex
        obtain ⟨go, gc, hgv, hgcc⟩ := P5.dk.g.ex
        have d0 : w5.cell? ⟨d, 0, none⟩ = some (.pointer (some ⟨fb, 0, none⟩)) := by
          rw [P5.dk.b.is 0 (by omega)]
          show some m5.fv = _
          rw [f1]
        have d1 : w5.cell? ⟨d, 1, none⟩ = some (.pointer (some ⟨M.t, 0, none⟩)) := by
          rw [P5.dk.b.is 1 (by omega)]
          show some m5.tv = _
          rw [f2]
        have d4 : w5.cell? ⟨d, 4, none⟩ = some (.int .i64 (D'.q.r)) := P5.dk.b.is 4 (by omega)
        have d5 : w5.cell? ⟨d, 5, none⟩ = some (.int .i64 (D'.q.s)) := P5.dk.b.is 5 (by omega)
        have d6 : w5.cell? ⟨d, 6, none⟩ = some (.int .i64 (D'.q.t)) := P5.dk.b.is 6 (by omega)
        have d7 : w5.cell? ⟨d, 7, none⟩ = some m5.gv := P5.dk.b.is 7 (by omega)
        have d8 : w5.cell? ⟨d, 8, none⟩ = some (.int .i64 (D'.q.h)) := P5.dk.b.is 8 (by omega)
        have d9 : w5.cell? ⟨d, 9, none⟩ = some (.int .i64 (D'.q.m)) := P5.dk.b.is 9 (by omega)
        have d11 : w5.cell? ⟨d, 11, none⟩ = some (.int .i64 (D'.pl.t)) := P5.dk.b.is 11 (by omega)
        have d12 : w5.cell? ⟨d, 12, none⟩ = some m5.pa := P5.dk.b.is 12 (by omega)
        have d13 : w5.cell? ⟨d, 13, none⟩ = some m5.da := P5.dk.b.is 13 (by omega)
        have d14 : w5.cell? ⟨d, 14, none⟩ = some (.int .i64 (D'.pl.x)) := P5.dk.b.is 14 (by omega)
        have hIp := P5.dk.pp
        have hId := P5.dk.pd
        have hIg := P5.dk.g
        have x0 : w5.cell? ⟨xb, 0, none⟩ = some (.int .i64 (oi.K)) := X5.is 0 (by omega)
        rw [hpa] at d12 hIp
        rw [hda] at d13 hId
        rw [hgv] at d7 hIg
        rw [hpt] at d11
        rw [hq] at d4 d5 d6 d7 d8 d9 hIg
        clear P5 X5 hX' f1 f2 f3 hPP hpa hda hgv hpt hq hoi hc
        have hms := HWBX.out.ms
        have hlow := search_low (S2 := PS.new) hF.ok hms hsc
        have hsho := search_short (S2 := PS.new) hF.ok hms hsc
        rw [← hpl] at hlow hsho
        obtain ⟨q, hq⟩ : ∃ y, rqOf oi = y := ⟨_, rfl⟩
        rw [hq] at d4 d5 d6 d7 d8 d9 d11 hfd hlow hsho hIg
        obtain ⟨x, hx⟩ : ∃ y, D'.pl.x = y := ⟨_, rfl⟩
        rw [hx] at d14 hlow
        obtain ⟨path, hpath⟩ : ∃ y, D'.pl.path = y := ⟨_, rfl⟩
        have hlen := hfd.len
        have hrk := rok_of hF.ok hfd.rc
        have hln := hfd.len2 hF.ok
        rw [hpath] at d12 hlen hln hsho
        have hbd := TC5.bd.base
        have hxx : 0 ≤ x ∧ x ≤ 1048576 := by
          rw [← hx, hpl]
          exact search_x hF.ok hms
        obtain ⟨pn, hpn⟩ : ∃ y, path.length = y := ⟨_, rfl⟩
        obtain ⟨dn, hdn⟩ : ∃ y, D'.pl.done.length = y := ⟨_, rfl⟩
        obtain ⟨gn, hgn⟩ : ∃ y, q.gl.length = y := ⟨_, rfl⟩
        rw [hpn] at d12 hlen hln hsho
        rw [hdn] at d13
        rw [hgn] at d7 hIg
        have hrr := hrk.r
        have hrs := hrk.s
        have hrt := hrk.t
        have hrh := hrk.h
        have hrm := hrk.m
        have hfn := hF.ok.n
        have hfb := hF.ok.nb
        have HQI : Hid (RqI q) := ⟨by unfold I64; omega, by unfold I64; omega, by unfold I64; omega, by unfold I64; omega, by unfold I64; omega⟩
        have HGD : Hid (∀ k, k < 2 → 1 ≤ (fun k => if k = 0 then x - 1 else q.m) k → 0 ≤ (fun k => if k = 0 then q.h else (pn : Int) - 2) k → (PS.search X.F X.T { q with h := (fun k => if k = 0 then q.h else (pn : Int) - 2) k, m := (fun k => if k = 0 then x - 1 else q.m) k } PS.new).2.c = (fun k => if k = 0 then 5 else 4) k) := fun k hk h1 h2 => by
          rcases (by omega : k = 0 ∨ k = 1) with rfl | rfl
          · exact hlow h1
          · exact hsho (by simp at h2; omega)
        have HNR : Hid (X.T.nr = X.F.bays.length) := HWBX.out.nr
        have HHC : Hid (X.T.held ≤ X.T.cap) := HWBX.out.held
        have HF5 := hid hF
        have HTC := hid TC5
        have HIG := hid hIg
        have SM : Hid (oi.K = 6 → ∀ w' : World, Below w5.heap.size w5 w' → Calls Try.prog 18 #[.pointer (some ⟨M.t, 0, none⟩), .pointer (some ⟨Mc.t, 0, none⟩)] w' fun e w'' => e = .returned (.bool true) ∧ ∃ z, w'' = w'.ext z) := fun h6 w' h => by
          rcases hkd with ⟨h5, -⟩ | ⟨-, hTT⟩
          · omega
          · rw [hTT] at hT5
            exact same_yes M Mc X.T l5 labc w' (hT5.below h) (TC5.below h)
        have hK56 : oi.K = 5 ∨ oi.K = 6 := by
          rcases hkd with ⟨h5, -⟩ | ⟨h6, -⟩
          · exact Or.inl h5
          · exact Or.inr h6
        generalize oi.K = Kd at *
        clear hq hx hpath hfd hrk hpn hdn hF hT5 TC5 hIp hId hkd hIg hpcc hdcc hgcc hgn hlow hsho hsc hpl HTI HWBX hms
        rcases hK56 with hK | hK
        · --BEGIN 1
          have dK : (Kd == 6) = false := by simp [hK]
          clear SM hK
          go_wp2
          refine wp_nm fun w7 hw7 => ?_
          have hb7 : Below w5.heap.size w5 w7 := by rw [hw7]; (repeat (first | with_reducible exact Below.rf _ | with_reducible exact World.below_ext _ _ | with_reducible refine Below.ex ?_ _ | with_reducible refine Below.al ?_ _ | with_reducible refine Below.setCell ?_ (by simp) _ | with_reducible refine Below.drew ?_))
          obtain ⟨kb, hkb⟩ : ∃ y, w5.heap.size = y := ⟨_, rfl⟩
          have k2 : w7.cell? ⟨w5.heap.size, 2, none⟩ = some (.slice po pn pc) := by rw [hw7]; simp [go_sem, ↓IntWalk.iteOmega]
          have k4 : w7.cell? ⟨w5.heap.size, 4, none⟩ = some (.int .i64 (x)) := by rw [hw7]; simp [go_sem, ↓IntWalk.iteOmega]
          have hkl : w5.heap.size < w7.heap.size := by rw [hw7]; simp <;> omega
          rw [hkb] at k2 k4 hkl ⊢
          have e8 := (World.cell?_of_block (hb7.block d hdl5)).trans d8
          have e9 := (World.cell?_of_block (hb7.block d hdl5)).trans d9
          have hdl7 := Nat.lt_of_lt_of_le hdl5 hb7.size
          have HB7 := hid hb7
          clear hw7 hb7
          --BEGIN 3
          go_region_held3 (fun w' => w'.cell? ⟨kb, 2, none⟩ = some (.slice po pn pc) ∧ w'.cell? ⟨kb, 4, none⟩ = some (.int .i64 (x)) ∧ w'.cell? ⟨d, 8, none⟩ = some (.int .i64 (q.h)) ∧ w'.cell? ⟨d, 9, none⟩ = some (.int .i64 (q.m))) (simp [go_sem, ↓IntWalk.iteOmega, *]) (fail)
          --END 3
          go_wp2
          refine wp_nm fun w8 hw8 => ?_
          have hb8 : Below w7.heap.size w7 w8 := by rw [hw8]; (repeat (first | with_reducible exact Below.rf _ | with_reducible exact World.below_ext _ _ | with_reducible refine Below.ex ?_ _ | with_reducible refine Below.al ?_ _ | with_reducible refine Below.setCell ?_ (by simp) _ | with_reducible refine Below.drew ?_))
          have A8 : Blk w8 w7.heap.size 6 (tryc (fun k => if k = 0 then x - 1 else q.m) (fun k => if k = 0 then q.h else (pn : Int) - 2) (fun k => if k = 0 then 5 else 4)) := by
            rw [hw8]
            have e1 : IntKind.i64.wrap (x - 1) = x - 1 := by simp [IntKind.wrap, IntKind.bits, IntKind.signed]; omega
            have e2 : IntKind.i64.wrap ((pn : Int) - 2) = (pn : Int) - 2 := by simp [IntKind.wrap, IntKind.bits, IntKind.signed]; omega
            rw [e1, e2]
            refine ⟨by (simp <;> omega), fun i hi => ?_, fun i hi => by simp [go_sem, ↓IntWalk.iteOmega]⟩
            rcases (by omega : i = 0 ∨ i = 1 ∨ i = 2 ∨ i = 3 ∨ i = 4 ∨ i = 5) with rfl | rfl | rfl | rfl | rfl | rfl <;> simp [go_sem, ↓IntWalk.iteOmega, tryc]
          have hb58 : Below w5.heap.size w5 w8 := HB7.out.trans (hb8.mono HB7.out.size)
          have HE8 : Hid (E7 w8 l5 labc d fb w7.heap.size Mc X.F X.T q (.slice go gn gc) (fun k => if k = 0 then x - 1 else q.m) (fun k => if k = 0 then q.h else (pn : Int) - 2) (fun k => if k = 0 then 5 else 4)) := ⟨HF5.out.below hb58, HTC.out.below hb58, HIG.out.below hb58, (World.cell?_of_block (hb58.block d hdl5)).trans d0, (World.cell?_of_block (hb58.block d hdl5)).trans d4, (World.cell?_of_block (hb58.block d hdl5)).trans d5, (World.cell?_of_block (hb58.block d hdl5)).trans d6, (World.cell?_of_block (hb58.block d hdl5)).trans d7, (World.cell?_of_block (hb58.block d hdl5)).trans d8, (World.cell?_of_block (hb58.block d hdl5)).trans d9, Nat.lt_of_lt_of_le hdl5 hb58.size, A8⟩
          have HP8 := hid (HP5.out.below hb58)
          clear hw8 hb8 A8 hb58
          refine ty_loop w8 l5 labc d fb w7.heap.size Mc X.F X.T q go gn gc _ _ _ HE8.out HGD.out (fun k hk => by rcases (by omega : k = 0 ∨ k = 1) with rfl | rfl <;> simp) (fun k hk => by rcases (by omega : k = 0 ∨ k = 1) with rfl | rfl <;> simp <;> omega) HQI.out HNR.out HHC.out _ _ _ _ _ _ _ _ _ _ _ _ _ _ _ _ _ _ _ _ _ _ _ _ _ _ _ _ _ _ _ _ _ _ _ _ _ _ _ _ _ _ _ _ _ _ _ _ _ _ _ _ _ _ _ _ _ _ _ _ _ _ _ _ _ _ _ _ _ _ _ _ _ _ _ _ _ _ _ _ _ _ _ _ _ _ _ _ _ _ _ _ _ _ _ _ _ _ _ _ _ _ _ _ _ _ _ _ _ _ _ _ _ _ _ _ _ _ _ _ _ _ _ _ _ _ _ _ _ _ _ _ _ _ _ _ _ _ _ _ _ _ _ _ _ ?_
          intro aL w9 hE
          obtain ⟨hBL, hE⟩ := hE
          obtain ⟨UTY, hE⟩ := hE
          obtain rfl := hE
          have HP9 := hid (HP8.out.below hBL)
          clear hBL HE8 HP8
          go_wp2
          refine ⟨by first | exact Or.inl rfl | exact Or.inr rfl, ⟨l5, m5, D', HP9.out, HIV5.out⟩, pickU rfl⟩
          --END 1
        · --BEGIN 2
          have dK : (Kd == 6) = true := by simp [hK]
          have SM2 := hid (SM.out hK)
          clear SM hK
          go_wp2_with (first | (go_at_call 18; refine (SM2.out _ (by (repeat (first | with_reducible exact Below.rf _ | with_reducible exact World.below_ext _ _ | with_reducible refine Below.ex ?_ _ | with_reducible refine Below.al ?_ _ | with_reducible refine Below.setCell ?_ (by simp) _ | with_reducible refine Below.drew ?_)))).mono ?_; rintro e w' ⟨rfl, z, rfl⟩))
          refine wp_nm fun w7 hw7 => ?_
          have hb7 : Below w5.heap.size w5 w7 := by rw [hw7]; (repeat (first | with_reducible exact Below.rf _ | with_reducible exact World.below_ext _ _ | with_reducible refine Below.ex ?_ _ | with_reducible refine Below.al ?_ _ | with_reducible refine Below.setCell ?_ (by simp) _ | with_reducible refine Below.drew ?_))
          obtain ⟨kb, hkb⟩ : ∃ y, w5.heap.size = y := ⟨_, rfl⟩
          have k2 : w7.cell? ⟨w5.heap.size, 2, none⟩ = some (.slice po pn pc) := by rw [hw7]; simp [go_sem, ↓IntWalk.iteOmega]
          have k4 : w7.cell? ⟨w5.heap.size, 4, none⟩ = some (.int .i64 (x)) := by rw [hw7]; simp [go_sem, ↓IntWalk.iteOmega]
          have hkl : w5.heap.size < w7.heap.size := by rw [hw7]; simp <;> omega
          rw [hkb] at k2 k4 hkl ⊢
          have e8 := (World.cell?_of_block (hb7.block d hdl5)).trans d8
          have e9 := (World.cell?_of_block (hb7.block d hdl5)).trans d9
          have hdl7 := Nat.lt_of_lt_of_le hdl5 hb7.size
          have HB7 := hid hb7
          clear hw7 hb7
          --BEGIN 3
          go_region_held3 (fun w' => w'.cell? ⟨kb, 2, none⟩ = some (.slice po pn pc) ∧ w'.cell? ⟨kb, 4, none⟩ = some (.int .i64 (x)) ∧ w'.cell? ⟨d, 8, none⟩ = some (.int .i64 (q.h)) ∧ w'.cell? ⟨d, 9, none⟩ = some (.int .i64 (q.m))) (simp [go_sem, ↓IntWalk.iteOmega, *]) (fail)
          --END 3
          go_wp2
          refine wp_nm fun w8 hw8 => ?_
          have hb8 : Below w7.heap.size w7 w8 := by rw [hw8]; (repeat (first | with_reducible exact Below.rf _ | with_reducible exact World.below_ext _ _ | with_reducible refine Below.ex ?_ _ | with_reducible refine Below.al ?_ _ | with_reducible refine Below.setCell ?_ (by simp) _ | with_reducible refine Below.drew ?_))
          have A8 : Blk w8 w7.heap.size 6 (tryc (fun k => if k = 0 then x - 1 else q.m) (fun k => if k = 0 then q.h else (pn : Int) - 2) (fun k => if k = 0 then 5 else 4)) := by
            rw [hw8]
            have e1 : IntKind.i64.wrap (x - 1) = x - 1 := by simp [IntKind.wrap, IntKind.bits, IntKind.signed]; omega
            have e2 : IntKind.i64.wrap ((pn : Int) - 2) = (pn : Int) - 2 := by simp [IntKind.wrap, IntKind.bits, IntKind.signed]; omega
            rw [e1, e2]
            refine ⟨by (simp <;> omega), fun i hi => ?_, fun i hi => by simp [go_sem, ↓IntWalk.iteOmega]⟩
            rcases (by omega : i = 0 ∨ i = 1 ∨ i = 2 ∨ i = 3 ∨ i = 4 ∨ i = 5) with rfl | rfl | rfl | rfl | rfl | rfl <;> simp [go_sem, ↓IntWalk.iteOmega, tryc]
          have hb58 : Below w5.heap.size w5 w8 := HB7.out.trans (hb8.mono HB7.out.size)
          have HE8 : Hid (E7 w8 l5 labc d fb w7.heap.size Mc X.F X.T q (.slice go gn gc) (fun k => if k = 0 then x - 1 else q.m) (fun k => if k = 0 then q.h else (pn : Int) - 2) (fun k => if k = 0 then 5 else 4)) := ⟨HF5.out.below hb58, HTC.out.below hb58, HIG.out.below hb58, (World.cell?_of_block (hb58.block d hdl5)).trans d0, (World.cell?_of_block (hb58.block d hdl5)).trans d4, (World.cell?_of_block (hb58.block d hdl5)).trans d5, (World.cell?_of_block (hb58.block d hdl5)).trans d6, (World.cell?_of_block (hb58.block d hdl5)).trans d7, (World.cell?_of_block (hb58.block d hdl5)).trans d8, (World.cell?_of_block (hb58.block d hdl5)).trans d9, Nat.lt_of_lt_of_le hdl5 hb58.size, A8⟩
          have HP8 := hid (HP5.out.below hb58)
          clear hw8 hb8 A8 hb58
          refine ty_loop w8 l5 labc d fb w7.heap.size Mc X.F X.T q go gn gc _ _ _ HE8.out HGD.out (fun k hk => by rcases (by omega : k = 0 ∨ k = 1) with rfl | rfl <;> simp) (fun k hk => by rcases (by omega : k = 0 ∨ k = 1) with rfl | rfl <;> simp <;> omega) HQI.out HNR.out HHC.out _ _ _ _ _ _ _ _ _ _ _ _ _ _ _ _ _ _ _ _ _ _ _ _ _ _ _ _ _ _ _ _ _ _ _ _ _ _ _ _ _ _ _ _ _ _ _ _ _ _ _ _ _ _ _ _ _ _ _ _ _ _ _ _ _ _ _ _ _ _ _ _ _ _ _ _ _ _ _ _ _ _ _ _ _ _ _ _ _ _ _ _ _ _ _ _ _ _ _ _ _ _ _ _ _ _ _ _ _ _ _ _ _ _ _ _ _ _ _ _ _ _ _ _ _ _ _ _ _ _ _ _ _ _ _ _ _ _ _ _ _ _ _ _ _ ?_
          intro aL w9 hE
          obtain ⟨hBL, hE⟩ := hE
          obtain ⟨UTY, hE⟩ := hE
          obtain rfl := hE
          have HP9 := hid (HP8.out.below hBL)
          clear hBL HE8 HP8
          go_wp2
          refine ⟨by first | exact Or.inl rfl | exact Or.inr rfl, ⟨l5, m5, D', HP9.out, HIV5.out⟩, pickU rfl⟩
          --END 2
      · --BEGIN T
        obtain ⟨X1, S', hX1, hX'⟩ := hsl ha hc
        obtain rfl : X = X1 := Option.some.inj (HW.out.symm.trans hX1)
        have hw := P5.dk.wd
        rw [hX'] at hw
        obtain ⟨fb, M, N, n5, f1, f2, f3, hF, hT5, hPP⟩ := hw
        have d1 : w5.cell? ⟨d, 1, none⟩ = some (.pointer (some ⟨M.t, 0, none⟩)) := by
          rw [P5.dk.b.is 1 (by omega)]
          show some m5.tv = _
          rw [f2]
        obtain ⟨hn1', hn2'⟩ := P5.dk.nl hc
        have d11 : w5.cell? ⟨d, 11, none⟩ = some (.int .i64 (D'.pl.t)) := P5.dk.b.is 11 (by omega)
        have d12 : w5.cell? ⟨d, 12, none⟩ = some m5.pa := P5.dk.b.is 12 (by omega)
        have d13 : w5.cell? ⟨d, 13, none⟩ = some m5.da := P5.dk.b.is 13 (by omega)
        have d14 : w5.cell? ⟨d, 14, none⟩ = some (.int .i64 (D'.pl.x)) := P5.dk.b.is 14 (by omega)
        rw [hn1'] at d12
        rw [hn2'] at d13
        have SM : Hid (∀ w' : World, Below w5.heap.size w5 w' → Calls Try.prog 18 #[.pointer (some ⟨M.t, 0, none⟩), .pointer (some ⟨Mc.t, 0, none⟩)] w' fun e w'' => e = .returned (.bool true) ∧ ∃ z, w'' = w'.ext z) := fun w' h => same_yes M Mc X.T l5 labc w' (hT5.below h) (TC5.below h)
        have dc : ((D'.pl.c : Int) != 0) = true := by simp; exact hc
        have NS := fun (w' : World) => run_neq_slice_nil_any (P := Try.prog) w' 32 3 none 0 0 0 0 Try.underlying32
        generalize D'.pl.t = pt at d11
        generalize D'.pl.x = px at d14
        generalize D'.pl.c = pcd at d10 dc
        clear hsf hsl hsa ha hc P5 X5 TC5 HW hX1 hX' f1 f2 f3 hF hT5 hPP hn1' hn2'
        go_wp2_with (first | (go_at_call 18; refine (SM.out _ (by (repeat (first | with_reducible exact Below.rf _ | with_reducible exact World.below_ext _ _ | with_reducible refine Below.ex ?_ _ | with_reducible refine Below.al ?_ _ | with_reducible refine Below.setCell ?_ (by simp) _ | with_reducible refine Below.drew ?_)))).mono ?_; rintro e w' ⟨rfl, z, rfl⟩))
        refine ⟨by first | exact Or.inl rfl | exact Or.inr rfl, ⟨l5, m5, D', HP5.out.below (by (repeat (first | with_reducible exact Below.rf _ | with_reducible exact World.below_ext _ _ | with_reducible refine Below.ex ?_ _ | with_reducible refine Below.al ?_ _ | with_reducible refine Below.setCell ?_ (by simp) _ | with_reducible refine Below.drew ?_))), HIV5.out⟩, pickU rfl⟩
        --END T
    · --BEGIN U
      rw [Bool.not_eq_true] at ha
      rw [ha] at d3
      clear hsf hsl hsa ha P5 X5 TC5 HW
      go_wp2
      refine ⟨by first | exact Or.inl rfl | exact Or.inr rfl, ⟨l5, m5, D', HP5.out, HIV5.out⟩, pickU rfl⟩
      --END U
    --END S
end Go.Proofs.Qxb6500716a
