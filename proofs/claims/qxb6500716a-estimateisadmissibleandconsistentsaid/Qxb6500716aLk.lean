/-
  EstimateIsAdmissibleAndConsistent: its loop over the labels, cut out.
-/
import Derived.Test.Qxb6500716aEc
import Derived.Test.Qxb6500716aFx
import Derived.Test.Qxb6500716aDl
namespace Go.Proofs.Qxb6500716a
open Go.RowKit Go.Maps
set_option linter.unusedSimpArgs false
set_option linter.unusedVariables false
set_option maxRecDepth 20000
set_option maxHeartbeats 4000000
/-- All that the checks of one estimate read. -/
structure E5 (w : World) (lab : Nat → Nat) (eb fb : Nat) (F : FS) (bay : Int) (gl : List (Int × Int)) (gv tv av : Value) (LB : Nat) (rb : Nat → Nat) (L : Nat → Nat → Nat) (d xb : Nat) (A : Int) : Prop where
  f : FAt w lab fb F
  e : Blk w eb 3 (fc (.pointer (some ⟨fb, 0, none⟩)) tv av undef)
  t : Ints w lab tv (etl bay gl)
  a : Ints w lab av (eal F bay gl)
  g : GAt w lab gv gl
  lb : Blk w LB (gl.length + 1) (fun l => .slice (some ⟨rb l, 0, none⟩) F.n F.n)
  row : ∀ l, l < gl.length + 1 → Blk w (rb l) F.n (fun c => .int .i64 (L l c))
  d0 : w.cell? ⟨d, 0, none⟩ = some (.pointer (some ⟨fb, 0, none⟩))
  dl : d < w.heap.size
  x1 : w.cell? ⟨xb, 1, none⟩ = some (.int .i64 (A))
  xl : xb < w.heap.size
theorem E5.below {w w' : World} {lab : Nat → Nat} {eb fb : Nat} {F : FS} {bay : Int} {gl : List (Int × Int)} {gv tv av : Value} {LB : Nat} {rb : Nat → Nat} {L : Nat → Nat → Nat} {d xb : Nat} {A : Int} (h : E5 w lab eb fb F bay gl gv tv av LB rb L d xb A) (hb : Below w.heap.size w w') : E5 w' lab eb fb F bay gl gv tv av LB rb L d xb A :=
  ⟨h.f.below hb, h.e.below hb, h.t.keptL (A := fun _ => False) (KeptL.of_below hb) (fun _ h => h.elim), h.a.keptL (A := fun _ => False) (KeptL.of_below hb) (fun _ h => h.elim), h.g.below hb, h.lb.below hb, fun l hl => (h.row l hl).below hb, (World.cell?_of_block (hb.block d h.dl)).trans h.d0, Nat.lt_of_lt_of_le h.dl hb.size, (World.cell?_of_block (hb.block xb h.xl)).trans h.x1, Nat.lt_of_lt_of_le h.xl hb.size⟩
set_option maxRecDepth 1000000 in
set_option maxHeartbeats 400000000 in
theorem lab_loop (w9 : World) (l7 : Nat → Nat) (eb fb LB d xb gn fn gc tn tc an ac : Nat) (F : FS) (bay A : Int) (gl : List (Int × Int)) (go t1 a1 : Option Addr) (rb : Nat → Nat) (L : Nat → Nat → Nat)
    (HE9 : E5 w9 l7 eb fb F bay gl (.slice go gn gc) (.slice t1 tn tc) (.slice a1 an ac) LB rb L d xb A) (HL0 : Lok F bay gl L) (HOK0 : F.gok gl) (HFO0 : FOk F) (hgn : gl.length = gn) (hfn : F.n = fn) (hby : 0 ≤ bay ∧ bay < (F.n : Int))
    (Q0 : Exit → Act → World → Prop) (x0 x1 x2 x4 x7 x9 x10 x13 x14 x15 x16 x17 x18 x19 x20 x21 x22 x23 x24 x25 x26 x27 x28 x29 x30 x31 x32 x33 x34 x35 x36 x37 x38 x39 x40 x41 x42 x43 x44 x45 x46 x47 x48 x49 x50 x51 x52 x53 x54 x55 x56 x57 x58 x59 x60 x61 x62 x63 x64 x65 x66 x67 x68 x69 x70 x71 x72 x73 x74 x75 x76 x77 x78 x79 x80 x81 x82 x83 x84 x85 x86 x87 x88 x89 x90 x91 x92 x93 x94 x95 x96 x97 x98 x99 x100 x101 x102 x103 x104 x105 x106 x107 x108 x109 x110 x111 x112 x113 x114 x115 x116 x117 x118 x119 x120 x121 x122 x123 x124 x125 x126 x127 x128 x129 x130 x131 x132 x133 x134 x135 x136 x137 x138 x139 x140 x141 x142 x143 x144 x145 x146 x147 x148 x149 x150 x151 x152 x153 x154 x155 x156 x157 x158 x159 x160 x161 x162 x163 x164 x165 x166 x167 x168 x169 x170 x171 x172 x173 x174 x175 x176 x177 x178 x179 x180 x181 : Value)
    (hexit : ∀ (a' : Act) (w'' : World), (Below w9.heap.size w9 w'' ∧ ∃ u2 u12 u13 u14 u16 u86 u87 u88 u89 u90 u91 u92 u93 u94 u95 u96 u97 u98 u99 u100 u101 u102 u103 u104 u105 u106 u107 u108 u109 u110 u111 u112 u113 u114 u115 u116 u117 u118 u119 u120 u121 u122 u123 u124 u125 u126 u127 u128 u129 u130 u131 u132 u133 u134 u135 u136 u137 u138 u139 u140 u141 u142 u143 u144 u145 u146 u147 u148 u149 u150 u151 u152 u153 u154 u155 u156 u157 u158 u159 u160 u161 u162 u163 u164 : Value, a' = ⟨List.toArray (x0 :: x1 :: u2 :: .pointer (some ⟨d, 0, none⟩) :: x4 :: .pointer (some ⟨xb, 0, none⟩) :: (.slice go gn gc) :: x7 :: .pointer (some ⟨eb, 0, none⟩) :: x9 :: x10 :: (.slice (some ⟨LB, 0, none⟩) (gn + 1) (gn + 1)) :: u12 :: u13 :: u14 :: x15 :: u16 :: x17 :: x18 :: x19 :: x20 :: x21 :: x22 :: x23 :: x24 :: x25 :: x26 :: x27 :: x28 :: x29 :: x30 :: x31 :: x32 :: x33 :: x34 :: x35 :: x36 :: x37 :: x38 :: x39 :: x40 :: x41 :: x42 :: x43 :: x44 :: x45 :: x46 :: x47 :: x48 :: x49 :: x50 :: x51 :: x52 :: x53 :: x54 :: x55 :: x56 :: x57 :: x58 :: x59 :: x60 :: x61 :: x62 :: x63 :: x64 :: x65 :: x66 :: x67 :: x68 :: x69 :: x70 :: x71 :: x72 :: x73 :: x74 :: x75 :: x76 :: x77 :: x78 :: x79 :: x80 :: x81 :: x82 :: x83 :: x84 :: x85 :: u86 :: u87 :: u88 :: u89 :: u90 :: u91 :: u92 :: u93 :: u94 :: u95 :: u96 :: u97 :: u98 :: u99 :: u100 :: u101 :: u102 :: u103 :: u104 :: u105 :: u106 :: u107 :: u108 :: u109 :: u110 :: u111 :: u112 :: u113 :: u114 :: u115 :: u116 :: u117 :: u118 :: u119 :: u120 :: u121 :: u122 :: u123 :: u124 :: u125 :: u126 :: u127 :: u128 :: u129 :: u130 :: u131 :: u132 :: u133 :: u134 :: u135 :: u136 :: u137 :: u138 :: u139 :: u140 :: u141 :: u142 :: u143 :: u144 :: u145 :: u146 :: u147 :: u148 :: u149 :: u150 :: u151 :: u152 :: u153 :: u154 :: u155 :: u156 :: u157 :: u158 :: u159 :: u160 :: u161 :: u162 :: u163 :: u164 :: x165 :: x166 :: x167 :: x168 :: x169 :: x170 :: x171 :: x172 :: x173 :: x174 :: x175 :: x176 :: x177 :: x178 :: x179 :: x180 :: x181 :: []), []⟩) → Q0 (.exit 2) a' w'') :
    Code.wp Try.prog ((Try.f5.body.bind (findBlock 2)).getD .skip) Q0 ⟨List.toArray (x0 :: x1 :: x2 :: .pointer (some ⟨d, 0, none⟩) :: x4 :: .pointer (some ⟨xb, 0, none⟩) :: (.slice go gn gc) :: x7 :: .pointer (some ⟨eb, 0, none⟩) :: x9 :: x10 :: (.slice (some ⟨LB, 0, none⟩) (gn + 1) (gn + 1)) :: .int .i64 ((0 : Nat)) :: x13 :: x14 :: x15 :: x16 :: x17 :: x18 :: x19 :: x20 :: x21 :: x22 :: x23 :: x24 :: x25 :: x26 :: x27 :: x28 :: x29 :: x30 :: x31 :: x32 :: x33 :: x34 :: x35 :: x36 :: x37 :: x38 :: x39 :: x40 :: x41 :: x42 :: x43 :: x44 :: x45 :: x46 :: x47 :: x48 :: x49 :: x50 :: x51 :: x52 :: x53 :: x54 :: x55 :: x56 :: x57 :: x58 :: x59 :: x60 :: x61 :: x62 :: x63 :: x64 :: x65 :: x66 :: x67 :: x68 :: x69 :: x70 :: x71 :: x72 :: x73 :: x74 :: x75 :: x76 :: x77 :: x78 :: x79 :: x80 :: x81 :: x82 :: x83 :: x84 :: x85 :: x86 :: x87 :: x88 :: x89 :: x90 :: x91 :: x92 :: x93 :: x94 :: x95 :: x96 :: x97 :: x98 :: x99 :: x100 :: x101 :: x102 :: x103 :: x104 :: x105 :: x106 :: x107 :: x108 :: x109 :: x110 :: x111 :: x112 :: x113 :: x114 :: x115 :: x116 :: x117 :: x118 :: x119 :: x120 :: x121 :: x122 :: x123 :: x124 :: x125 :: x126 :: x127 :: x128 :: x129 :: x130 :: x131 :: x132 :: x133 :: x134 :: x135 :: x136 :: x137 :: x138 :: x139 :: x140 :: x141 :: x142 :: x143 :: x144 :: x145 :: x146 :: x147 :: x148 :: x149 :: x150 :: x151 :: x152 :: x153 :: x154 :: x155 :: x156 :: x157 :: x158 :: x159 :: x160 :: x161 :: x162 :: x163 :: x164 :: x165 :: x166 :: x167 :: x168 :: x169 :: x170 :: x171 :: x172 :: x173 :: x174 :: x175 :: x176 :: x177 :: x178 :: x179 :: x180 :: x181 :: []), []⟩ w9 := by
  conv => arg 2; whnf
  have HE9 := hid HE9
  have HL := hid HL0
  have HOK := hid HOK0
  have HFO := hid HFO0
  have HGN := hid hgn
  have HFN := hid hfn
  have hk16 := HOK0.1
  have hn384 := HFO0.n
  rw [hgn] at hk16
  rw [hfn] at hn384
  clear HL0 HOK0 HFO0 hgn hfn
  go_loopw [12] (fun v wr => ∃ l : Nat, v = .int .i64 (l) ∧ l ≤ gn + 1 ∧ Below w9.heap.size w9 wr) (fun v _ => gn + 1 - (intOf v).toNat)
  case atStart => exact ⟨0, rfl, Nat.zero_le _, Below.rf _⟩
  case round =>
    obtain ⟨l, rfl, hl, hB⟩ := hrel
    have HB := hid hB
    have HE := hid (HE9.out.below hB)
    clear hB
    have g0 : (wr).cell? ⟨eb, 0, none⟩ = some (.pointer (some ⟨fb, 0, none⟩)) := HE.out.e.is 0 (by omega)
    have g1 : (wr).cell? ⟨eb, 1, none⟩ = some (.slice t1 tn tc) := HE.out.e.is 1 (by omega)
    have g2 : (wr).cell? ⟨eb, 2, none⟩ = some (.slice a1 an ac) := HE.out.e.is 2 (by omega)
    have gl0 := HE.out.e.lt
    have e0 := HE.out.d0
    have hdx := HE.out.dl
    have x1 := HE.out.x1
    have hxx := HE.out.xl
    have LB5 : Hid (∀ w' : World, Below wr.heap.size wr w' → Calls Try.prog 29 #[.agg #[.pointer (some ⟨fb, 0, none⟩), .slice t1 tn tc, .slice a1 an ac]] w' fun e w'' => e = .returned (.int .i64 ((gn : Int) + 1)) ∧ ∃ z, w'' = w'.ext z) := fun w' h => by
      have := labels_any fb (.slice t1 tn tc) (.slice a1 an ac) l7 bay gl w' (HE.out.below h).t
      rw [HGN.out] at this
      exact this
    by_cases hlg : l < gn + 1
    · have dl : decide ((l : Int) < (gn : Int) + 1) = true := by simp; omega
      have dln : decide (l < gn + 1) = true := by simp; omega
      go_wp2_with (first | (go_at_call 29; refine (LB5.out _ (by (repeat (first | with_reducible exact Below.rf _ | with_reducible exact World.below_ext _ _ | with_reducible refine Below.ex ?_ _ | with_reducible refine Below.al ?_ _ | with_reducible refine Below.setCell ?_ (by simp) _ | with_reducible refine Below.drew ?_)))).mono ?_; rintro e w' ⟨rfl, z, rfl⟩))
      obtain ⟨wO, rfl⟩ : ∃ y, y = wr := ⟨_, rfl⟩
      go_loopw [13] (fun v wr => ∃ c : Nat, v = .int .i64 (c) ∧ c ≤ fn ∧ Below w9.heap.size w9 wr) (fun v _ => fn - (intOf v).toNat)
      case atStart => exact ⟨0, rfl, Nat.zero_le _, HB.out.trans ((World.below_ext wO z).mono HB.out.size)⟩
      case round =>
        --BEGIN 21
        obtain ⟨c, rfl, hc, hB2⟩ := hrel
        clear g0 g1 g2 gl0 e0 hdx x1 hxx HE LB5 HB
        have HB := hid hB2
        have HE := hid (HE9.out.below hB2)
        clear hB2
        have g0 : (wr).cell? ⟨eb, 0, none⟩ = some (.pointer (some ⟨fb, 0, none⟩)) := HE.out.e.is 0 (by omega)
        have g1 : (wr).cell? ⟨eb, 1, none⟩ = some (.slice t1 tn tc) := HE.out.e.is 1 (by omega)
        have g2 : (wr).cell? ⟨eb, 2, none⟩ = some (.slice a1 an ac) := HE.out.e.is 2 (by omega)
        have gl0 := HE.out.e.lt
        have e0 := HE.out.d0
        have hdx := HE.out.dl
        have x1 := HE.out.x1
        have hxx := HE.out.xl
        have CL5 : Hid (∀ w' : World, Below wr.heap.size wr w' → Calls Try.prog 30 #[.pointer (some ⟨fb, 0, none⟩)] w' fun e w'' => e = .returned (.int .i64 (fn)) ∧ w'' = w') := fun w' h => by
          have := cells_any fb F l7 w' (HE.out.below h).f
          rw [HFN.out] at this
          exact this
        by_cases hcf : c < fn
        · have dc : decide ((c : Int) < (fn : Int)) = true := by simp; omega
          have dcn : decide (c < fn) = true := by simp; omega
          have hlo := HL.out.lo l c (by rw [HGN.out]; omega) (by rw [HFN.out]; omega)
          have hhi := HL.out.hi l c (by rw [HGN.out]; omega) (by rw [HFN.out]; omega)
          obtain ⟨ev, hev⟩ : ∃ y, F.est bay gl c l = y := ⟨_, rfl⟩
          rw [hev] at hlo
          have HEV := hid hev
          clear hev
          have EA : Hid (∀ w' : World, Below wr.heap.size wr w' → Calls Try.prog 31 #[.agg #[.pointer (some ⟨fb, 0, none⟩), .slice t1 tn tc, .slice a1 an ac], .int .i64 (c), .int .i64 (l)] w' fun e w'' => e = .returned (.int .i64 (ev)) ∧ ∃ z, w'' = w'.ext z) := fun w' h => by
            have := estAt_any fb F (.slice t1 tn tc) (.slice a1 an ac) l7 bay gl c l w' (HE.out.below h).f HOK.out hby (HE.out.below h).t (HE.out.below h).a (by rw [HFN.out]; omega) (by rw [HGN.out]; omega)
            rw [HEV.out] at this
            exact this
          have r1 := HE.out.lb.is l (by rw [HGN.out]; omega)
          rw [HFN.out] at r1
          have r1l := HE.out.lb.lt
          have r2 := (HE.out.row l (by rw [HGN.out]; omega)).is c (by rw [HFN.out]; omega)
          have r2l := (HE.out.row l (by rw [HGN.out]; omega)).lt
          have dv0 : decide ((ev : Int) < 0) = false := by simp
          have dv1 : decide ((L l c : Int) < (ev : Int)) = false := by simp; omega
          have dv1n : decide (L l c < ev) = false := by simp; omega
          obtain ⟨nv, hni, hnc⟩ := near_val fb F l7 c (by rw [HFN.out]; omega) wr HE.out.f
          have NRc := hid (fun (w' : World) (h : Below wr.heap.size wr w') => hnc w' (KeptL.of_below h))
          have HNI := hid hni
          obtain ⟨no, ncap, hnv, hncc⟩ := hni.ex
          have hnl := HFO.out.nearL c
          rw [HFN.out] at hnl
          obtain ⟨nl, hnl2⟩ : ∃ y, (F.near c).length = y := ⟨_, rfl⟩
          rw [hnl2] at hnv hncc hnl
          subst hnv
          have HNL := hid hnl2
          clear hni hnc hnl2
          go_wp2_with (first | (go_at_call 30; refine (CL5.out _ (by (repeat (first | with_reducible exact Below.rf _ | with_reducible exact World.below_ext _ _ | with_reducible refine Below.ex ?_ _ | with_reducible refine Below.al ?_ _ | with_reducible refine Below.setCell ?_ (by simp) _ | with_reducible refine Below.drew ?_)))).mono ?_; rintro e w' ⟨rfl, hw'⟩; obtain rfl := hw'.symm) | (go_at_call 31; refine (EA.out _ (by (repeat (first | with_reducible exact Below.rf _ | with_reducible exact World.below_ext _ _ | with_reducible refine Below.ex ?_ _ | with_reducible refine Below.al ?_ _ | with_reducible refine Below.setCell ?_ (by simp) _ | with_reducible refine Below.drew ?_)))).mono ?_; rintro e w' ⟨rfl, z, rfl⟩) | (go_at_call 32; refine (NRc.out _ (by (repeat (first | with_reducible exact Below.rf _ | with_reducible exact World.below_ext _ _ | with_reducible refine Below.ex ?_ _ | with_reducible refine Below.al ?_ _ | with_reducible refine Below.setCell ?_ (by simp) _ | with_reducible refine Below.drew ?_)))).mono ?_; rintro e w' ⟨rfl, hw'⟩; obtain rfl := hw'.symm))
          obtain ⟨wP, rfl⟩ : ∃ y, y = wr := ⟨_, rfl⟩
          go_loopw [125] (fun v wr => ∃ j : Nat, v = .int .i64 (j) ∧ j ≤ nl ∧ Below w9.heap.size w9 wr ∧ Below wP.heap.size wP wr) (fun v _ => nl - (intOf v).toNat)
          case atStart => exact ⟨0, rfl, Nat.zero_le _, HB.out.trans ((World.below_ext wP z).mono HB.out.size), World.below_ext wP z⟩
          case round =>
            --BEGIN 22
            obtain ⟨j, rfl, hj, hB3, hB4⟩ := hrel
            clear g0 g1 g2 gl0 e0 hdx x1 hxx HE CL5 EA r1 r1l r2 r2l HB NRc
            have HB := hid hB3
            have HB4 := hid hB4
            have HE := hid (HE9.out.below hB3)
            clear hB3 hB4
            have g0 : (wr).cell? ⟨eb, 0, none⟩ = some (.pointer (some ⟨fb, 0, none⟩)) := HE.out.e.is 0 (by omega)
            have g1 : (wr).cell? ⟨eb, 1, none⟩ = some (.slice t1 tn tc) := HE.out.e.is 1 (by omega)
            have g2 : (wr).cell? ⟨eb, 2, none⟩ = some (.slice a1 an ac) := HE.out.e.is 2 (by omega)
            have gl0 := HE.out.e.lt
            have e0 := HE.out.d0
            have hdx := HE.out.dl
            have x1 := HE.out.x1
            have hxx := HE.out.xl
            by_cases hjn : j < nl
            · have dj : decide ((j : Int) < (nl : Int)) = true := by simp; omega
              have djn : decide (j < nl) = true := by simp; omega
              have hjl : j < (F.near c).length := by rw [HNL.out]; exact hjn
              have hx : (F.near c)[j]? = some (F.near c)[j] := List.getElem?_eq_getElem hjl
              have hmem := List.getElem_mem hjl
              have htb := HFO.out.near c _ hmem
              generalize (F.near c)[j] = to at *
              obtain ⟨to2, rfl⟩ : ∃ y : Nat, to = y := ⟨to.toNat, by omega⟩
              have htn : to2 < F.n := by omega
              have hnear := est_near HFO.out bay gl c to2 l htn hmem
              rw [HEV.out] at hnear
              have hbd := est_bd HFO.out (bay := bay) HOK.out to2 l
              obtain ⟨ev2, hev2⟩ : ∃ y, F.est bay gl to2 l = y := ⟨_, rfl⟩
              rw [hev2] at hnear hbd
              have EA2 : Hid (∀ w' : World, Below wr.heap.size wr w' → Calls Try.prog 31 #[.agg #[.pointer (some ⟨fb, 0, none⟩), .slice t1 tn tc, .slice a1 an ac], .int .i64 (to2), .int .i64 (l)] w' fun e w'' => e = .returned (.int .i64 (ev2)) ∧ ∃ z, w'' = w'.ext z) := fun w' h => by
                have := estAt_any fb F (.slice t1 tn tc) (.slice a1 an ac) l7 bay gl to2 l w' (HE.out.below h).f HOK.out hby (HE.out.below h).t (HE.out.below h).a htn (by rw [HGN.out]; omega)
                rw [hev2] at this
                exact this
              obtain ⟨nb2, na, n', cap', hv, hbl2, -, cq⟩ := HNI.out.row j _ hx
              simp only [Value.slice.injEq] at hv
              obtain ⟨rfl, -, -⟩ := hv
              have cq' : wr.cell? ⟨nb2, na + j, none⟩ = some (.int .i64 (to2)) := (World.cell?_of_block (HB4.out.block nb2 hbl2)).trans cq
              have hbl3 : nb2 < wr.heap.size := Nat.lt_of_lt_of_le hbl2 HB4.out.size
              have dn : decide (1 + (ev2 : Int) < (ev : Int)) = false := by simp; omega
              clear hx hmem htb hev2 cq
              go_wp2_with (first | (go_at_call 31; refine (EA2.out _ (by (repeat (first | with_reducible exact Below.rf _ | with_reducible exact World.below_ext _ _ | with_reducible refine Below.ex ?_ _ | with_reducible refine Below.al ?_ _ | with_reducible refine Below.setCell ?_ (by simp) _ | with_reducible refine Below.drew ?_)))).mono ?_; rintro e w' ⟨rfl, z, rfl⟩))
              go_roundw
              case rel => exact ⟨j + 1, by go_num, by omega, HB.out.trans ((World.below_ext wr z).mono HB.out.size), HB4.out.trans ((World.below_ext wr z).mono HB4.out.size)⟩
              case measure => (simp [intOf] <;> omega)
            · have dj : decide ((j : Int) < (nl : Int)) = false := by simp; omega
              have djn : decide (j < nl) = false := by simp; omega
              by_cases hlk : l < gn
              · have dlk : decide ((l : Int) < (gn : Int)) = true := by simp; omega
                have dlkn : decide (l < gn) = true := by simp; omega
                have hgll : l < gl.length := by rw [HGN.out]; exact hlk
                have hgx : gl[l]? = some gl[l] := List.getElem?_eq_getElem hgll
                have hgm := HOK.out.2 _ (List.getElem_mem hgll)
                generalize gl[l] = g at *
                obtain ⟨gb, gn', gcap, hgv2, hgbl, -, y0, y1⟩ := HE.out.g.row l _ hgx
                simp only [Value.slice.injEq] at hgv2
                obtain ⟨rfl, -, -⟩ := hgv2
                by_cases hgc2 : g.1 = (c : Int)
                · have hge := est_goal HFO.out bay gl c l g hgx hgc2
                  rw [HEV.out] at hge
                  have hbd := est_bd HFO.out (bay := bay) HOK.out c (l + 1)
                  obtain ⟨ev3, hev3⟩ : ∃ y, F.est bay gl c (l + 1) = y := ⟨_, rfl⟩
                  rw [hev3] at hge hbd
                  have EA3 : Hid (∀ w' : World, Below wr.heap.size wr w' → Calls Try.prog 31 #[.agg #[.pointer (some ⟨fb, 0, none⟩), .slice t1 tn tc, .slice a1 an ac], .int .i64 (c), .int .i64 ((l : Int) + 1)] w' fun e w'' => e = .returned (.int .i64 (ev3)) ∧ ∃ z, w'' = w'.ext z) := fun w' h => by
                    have := estAt_any fb F (.slice t1 tn tc) (.slice a1 an ac) l7 bay gl c (l + 1) w' (HE.out.below h).f HOK.out hby (HE.out.below h).t (HE.out.below h).a (by rw [HFN.out]; omega) (by rw [HGN.out]; omega)
                    rw [hev3] at this
                    exact this
                  obtain ⟨g1', g2'⟩ := g
                  simp only at hgc2 y0 y1 hgm hge
                  subst hgc2
                  obtain ⟨gd, rfl⟩ : ∃ y : Nat, g2' = y := ⟨g2'.toNat, by omega⟩
                  rw [Int.toNat_natCast] at hge
                  have dg : ((c : Int) == (c : Int)) = true := by simp
                  have dn : decide ((gd : Int) + (ev3 : Int) < (ev : Int)) = false := by simp; omega
                  have dnn : decide (gd + ev3 < ev) = false := by simp; omega
                  clear hgx hev3
                  go_wp2
                  first | with_reducible refine wp_region_ext2 (by kernel_rfl) (by kernel_rfl) ?_ | refine wp_region_ext (by kernel_rfl) (by kernel_rfl) ?_
                  repeat (go_big_quiet_step ((go_at_call 31; exact Calls.ext_of (EA3.out _ (by (repeat (first | with_reducible exact Below.rf _ | with_reducible exact World.below_ext _ _ | with_reducible refine Below.ex ?_ _ | with_reducible refine Below.al ?_ _ | with_reducible refine Below.setCell ?_ (by simp) _ | with_reducible refine Below.drew ?_)))))))
                  refine wpQuiet_nil ?_
                  rintro _ ⟨z, rfl⟩
                  go_wp2
                  go_roundw
                  case rel => exact ⟨c + 1, by go_num, by omega, HB.out.trans ((World.below_ext wr z).mono HB.out.size)⟩
                  case measure => (simp [intOf] <;> omega)
                · have dg : (g.1 == (c : Int)) = false := by simp [hgc2]
                  clear hgx y1 hgm
                  go_wp2
                  first | with_reducible refine wp_region_ext2 (by kernel_rfl) (by kernel_rfl) ?_ | refine wp_region_ext (by kernel_rfl) (by kernel_rfl) ?_
                  repeat (go_big_quiet_step (fail))
                  refine wpQuiet_nil ?_
                  rintro _ ⟨z, rfl⟩
                  go_wp2
                  go_roundw
                  case rel => exact ⟨c + 1, by go_num, by omega, HB.out.trans ((World.below_ext wr z).mono HB.out.size)⟩
                  case measure => (simp [intOf] <;> omega)
              · have dlk : decide ((l : Int) < (gn : Int)) = false := by simp; omega
                have dlkn : decide (l < gn) = false := by simp; omega
                go_wp2
                first | with_reducible refine wp_region_ext2 (by kernel_rfl) (by kernel_rfl) ?_ | refine wp_region_ext (by kernel_rfl) (by kernel_rfl) ?_
                repeat (go_big_quiet_step (fail))
                refine wpQuiet_nil ?_
                rintro _ ⟨z, rfl⟩
                go_wp2
                go_roundw
                case rel => exact ⟨c + 1, by go_num, by omega, HB.out.trans ((World.below_ext wr z).mono HB.out.size)⟩
                case measure => (simp [intOf] <;> omega)
            --END 22
        · have dc : decide ((c : Int) < (fn : Int)) = false := by simp; omega
          have dcn : decide (c < fn) = false := by simp; omega
          go_wp2_with (first | (go_at_call 30; refine (CL5.out _ (by (repeat (first | with_reducible exact Below.rf _ | with_reducible exact World.below_ext _ _ | with_reducible refine Below.ex ?_ _ | with_reducible refine Below.al ?_ _ | with_reducible refine Below.setCell ?_ (by simp) _ | with_reducible refine Below.drew ?_)))).mono ?_; rintro e w' ⟨rfl, hw'⟩; obtain rfl := hw'.symm))
          go_roundw
          case rel => exact ⟨l + 1, by go_num, by omega, HB.out⟩
          case measure => (simp [intOf] <;> omega)
        --END 21
    · --BEGIN 24
      have dl : decide ((l : Int) < (gn : Int) + 1) = false := by simp; omega
      have dln : decide (l < gn + 1) = false := by simp; omega
      go_wp2_with (first | (go_at_call 29; refine (LB5.out _ (by (repeat (first | with_reducible exact Below.rf _ | with_reducible exact World.below_ext _ _ | with_reducible refine Below.ex ?_ _ | with_reducible refine Below.al ?_ _ | with_reducible refine Below.setCell ?_ (by simp) _ | with_reducible refine Below.drew ?_)))).mono ?_; rintro e w' ⟨rfl, z, rfl⟩))
      exact ⟨HB.out.trans ((World.below_ext wr z).mono HB.out.size), _, _, _, _, _, _, _, _, _, _, _, _, _, _, _, _, _, _, _, _, _, _, _, _, _, _, _, _, _, _, _, _, _, _, _, _, _, _, _, _, _, _, _, _, _, _, _, _, _, _, _, _, _, _, _, _, _, _, _, _, _, _, _, _, _, _, _, _, _, _, _, _, _, _, _, _, _, _, _, _, _, _, _, _, rfl⟩
      --END 24
end Go.Proofs.Qxb6500716a
