/-
  EnteredPlanIsInTable: its loop over the ticks, cut out.
-/
import Derived.Test.Qxb6500716aLc
namespace Go.Proofs.Qxb6500716a
open Go.RowKit Go.Maps
set_option linter.unusedSimpArgs false
set_option linter.unusedVariables false
set_option maxRecDepth 20000
set_option maxHeartbeats 4000000
theorem doneC_le (b : Int) : ∀ l : List Int, doneC b l ≤ l.length
  | [] => Nat.le_refl _
  | d :: l => by
    have := doneC_le b l
    rw [doneC, List.length_cons]
    split <;> omega
set_option maxRecDepth 1000000 in
set_option maxHeartbeats 400000000 in
theorem tt_loop (w7 : World) (lab labc : Nat → Nat) (d xb rb pb fb pn pc dn dc : Nat) (M Mc : TM) (F : FS) (T T' : TS) (q : Rq) (x K : Int) (gv : Value) (po dq : Option Addr) (path done : List Int)
    (HE7 : E8 w7 lab labc d xb rb pb fb M Mc F T T' q x K gv (.slice po pn pc) (.slice dq dn dc) path done) (hkd : (K = 5 ∧ Ent T T' q.r q.t path) ∨ (K = 6 ∧ T' = T)) (hrs : ∀ (i j : Nat) (a b : Int), i ≤ j → done[i]? = some a → done[j]? = some b → a ≤ b) (hpn : path.length = pn) (hdn : done.length = dn) (hln : 1 ≤ pn ∧ pn ≤ 256) (hdl : dn ≤ 300) (hqt : 0 ≤ q.t ∧ q.t ≤ 2000000000)
    (Q0 : Exit → Act → World → Prop) (x0 x1 x2 x4 x10 x11 x12 x13 x14 x15 x16 x17 x18 x19 x20 x21 x22 x23 x24 x25 x26 x27 x28 x29 x30 x31 x32 x33 x34 x35 x36 x37 x38 x39 x40 x41 x42 x43 x44 x45 x46 x47 x48 x49 x50 x51 x52 x53 x54 x55 x56 x57 x58 x59 x60 x61 x62 x63 x64 x65 x66 x67 x68 x69 x70 x71 x72 x73 x74 x75 x76 x77 x78 x79 x80 x81 x82 x83 x84 x85 x86 x87 x88 x89 x90 x91 x92 x93 x94 x95 x96 x97 x98 x99 x100 x101 x102 x103 x104 x105 x106 x107 x108 x109 x110 x111 x112 x113 x114 x115 x116 x117 x118 x119 x120 x121 x122 x123 x124 x125 x126 x127 x128 x129 x130 x131 x132 x133 x134 x135 x136 x137 x138 x139 x140 x141 x142 x143 x144 x145 x146 x147 x148 x149 x150 x151 x152 x153 x154 x155 x156 x157 x158 x159 x160 : Value)
    (hexit : ∀ (a' : Act) (w'' : World), (Below w7.heap.size w7 w'' ∧ ∃ u2 u9 u10 u11 u13 u14 u63 u64 u65 u66 u67 u68 u69 u70 u71 u72 u73 u74 u75 u76 u77 u78 u79 u80 u81 u82 u83 u84 u85 u86 u87 u88 u89 u90 u91 u92 u93 u94 u95 u96 u97 u98 u99 u100 u101 u102 u103 u104 u105 u106 u107 u108 u109 u110 u111 u112 u113 u114 u115 u116 u117 u118 u119 u120 u121 u122 u123 u124 u125 u126 u127 u128 u129 u130 u131 u132 u133 u134 u135 u136 u137 u138 u139 u140 u141 u142 u143 u144 u145 u146 u147 u148 u149 u150 u151 u152 u153 u154 u155 u156 u157 u158 u159 : Value, a' = ⟨List.toArray (x0 :: x1 :: u2 :: .pointer (some ⟨d, 0, none⟩) :: x4 :: .pointer (some ⟨xb, 0, none⟩) :: .pointer (some ⟨Mc.t, 0, none⟩) :: .pointer (some ⟨rb, 0, none⟩) :: .pointer (some ⟨pb, 0, none⟩) :: u9 :: u10 :: u11 :: x12 :: u13 :: u14 :: x15 :: x16 :: x17 :: x18 :: x19 :: x20 :: x21 :: x22 :: x23 :: x24 :: x25 :: x26 :: x27 :: x28 :: x29 :: x30 :: x31 :: x32 :: x33 :: x34 :: x35 :: x36 :: x37 :: x38 :: x39 :: x40 :: x41 :: x42 :: x43 :: x44 :: x45 :: x46 :: x47 :: x48 :: x49 :: x50 :: x51 :: x52 :: x53 :: x54 :: x55 :: x56 :: x57 :: x58 :: x59 :: x60 :: x61 :: x62 :: u63 :: u64 :: u65 :: u66 :: u67 :: u68 :: u69 :: u70 :: u71 :: u72 :: u73 :: u74 :: u75 :: u76 :: u77 :: u78 :: u79 :: u80 :: u81 :: u82 :: u83 :: u84 :: u85 :: u86 :: u87 :: u88 :: u89 :: u90 :: u91 :: u92 :: u93 :: u94 :: u95 :: u96 :: u97 :: u98 :: u99 :: u100 :: u101 :: u102 :: u103 :: u104 :: u105 :: u106 :: u107 :: u108 :: u109 :: u110 :: u111 :: u112 :: u113 :: u114 :: u115 :: u116 :: u117 :: u118 :: u119 :: u120 :: u121 :: u122 :: u123 :: u124 :: u125 :: u126 :: u127 :: u128 :: u129 :: u130 :: u131 :: u132 :: u133 :: u134 :: u135 :: u136 :: u137 :: u138 :: u139 :: u140 :: u141 :: u142 :: u143 :: u144 :: u145 :: u146 :: u147 :: u148 :: u149 :: u150 :: u151 :: u152 :: u153 :: u154 :: u155 :: u156 :: u157 :: u158 :: u159 :: x160 :: []), []⟩) → Q0 (.exit 2) a' w'') :
    Code.wp Try.prog ((Try.f8.body.bind (findBlock 2)).getD .skip) Q0 ⟨List.toArray (x0 :: x1 :: x2 :: .pointer (some ⟨d, 0, none⟩) :: x4 :: .pointer (some ⟨xb, 0, none⟩) :: .pointer (some ⟨Mc.t, 0, none⟩) :: .pointer (some ⟨rb, 0, none⟩) :: .pointer (some ⟨pb, 0, none⟩) :: .int .i64 (q.t - 2) :: x10 :: x11 :: x12 :: x13 :: x14 :: x15 :: x16 :: x17 :: x18 :: x19 :: x20 :: x21 :: x22 :: x23 :: x24 :: x25 :: x26 :: x27 :: x28 :: x29 :: x30 :: x31 :: x32 :: x33 :: x34 :: x35 :: x36 :: x37 :: x38 :: x39 :: x40 :: x41 :: x42 :: x43 :: x44 :: x45 :: x46 :: x47 :: x48 :: x49 :: x50 :: x51 :: x52 :: x53 :: x54 :: x55 :: x56 :: x57 :: x58 :: x59 :: x60 :: x61 :: x62 :: x63 :: x64 :: x65 :: x66 :: x67 :: x68 :: x69 :: x70 :: x71 :: x72 :: x73 :: x74 :: x75 :: x76 :: x77 :: x78 :: x79 :: x80 :: x81 :: x82 :: x83 :: x84 :: x85 :: x86 :: x87 :: x88 :: x89 :: x90 :: x91 :: x92 :: x93 :: x94 :: x95 :: x96 :: x97 :: x98 :: x99 :: x100 :: x101 :: x102 :: x103 :: x104 :: x105 :: x106 :: x107 :: x108 :: x109 :: x110 :: x111 :: x112 :: x113 :: x114 :: x115 :: x116 :: x117 :: x118 :: x119 :: x120 :: x121 :: x122 :: x123 :: x124 :: x125 :: x126 :: x127 :: x128 :: x129 :: x130 :: x131 :: x132 :: x133 :: x134 :: x135 :: x136 :: x137 :: x138 :: x139 :: x140 :: x141 :: x142 :: x143 :: x144 :: x145 :: x146 :: x147 :: x148 :: x149 :: x150 :: x151 :: x152 :: x153 :: x154 :: x155 :: x156 :: x157 :: x158 :: x159 :: x160 :: []), []⟩ w7 := by
  conv => arg 2; whnf
  have HE7 := hid HE7
  have HKD := hid hkd
  have HRS := hid hrs
  have HPN := hid hpn
  have HDN := hid hdn
  have hb5 := HE7.out.t.bd.base
  clear hkd hrs hpn hdn
  go_loopw [9] (fun v wr => ∃ tt : Int, v = .int .i64 (tt) ∧ q.t - 2 ≤ tt ∧ tt ≤ q.t + (T'.base : Int) + 259 ∧ Below w7.heap.size w7 wr) (fun v _ => ((T'.base : Int) + 260 - intOf v).toNat)
  case atStart => exact ⟨_, rfl, by omega, by omega, Below.rf _⟩
  case round =>
    obtain ⟨tt, rfl, ht1, ht2, hB⟩ := hrel
    have HB := hid hB
    have HE := hid (HE7.out.below hB)
    clear hB
    have e0 := HE.out.d0
    have e1 := HE.out.d1
    have hdx := HE.out.dl
    have r0 : (wr).cell? ⟨rb, 0, none⟩ = some (.int .i64 (q.r)) := HE.out.r.is 0 (by omega)
    have r2 : (wr).cell? ⟨rb, 2, none⟩ = some (.int .i64 (q.t)) := HE.out.r.is 2 (by omega)
    have hrx := HE.out.r.lt
    have p0 : (wr).cell? ⟨pb, 0, none⟩ = some (.int .u8 0) := HE.out.p.is 0 (by omega)
    have p1 : (wr).cell? ⟨pb, 1, none⟩ = some (.int .i64 (q.t)) := HE.out.p.is 1 (by omega)
    have p2 : (wr).cell? ⟨pb, 2, none⟩ = some (.slice po pn pc) := HE.out.p.is 2 (by omega)
    have p3 : (wr).cell? ⟨pb, 3, none⟩ = some (.slice dq dn dc) := HE.out.p.is 3 (by omega)
    have p4 : (wr).cell? ⟨pb, 4, none⟩ = some (.int .i64 (x)) := HE.out.p.is 4 (by omega)
    have hpx := HE.out.p.lt
    have k0 := HE.out.x0
    have hkx := HE.out.xl
    have EN : Hid (∀ w' : World, Below wr.heap.size wr w' → Calls Try.prog 25 #[.pointer (some ⟨M.t, 0, none⟩)] w' fun e w'' => e = .returned (.int .i64 ((T'.base : Int) + 256)) ∧ w'' = w') := fun w' h => end_any M T' lab w' (HE.out.below h).t
    by_cases hte : tt ≤ (T'.base : Int) + 258
    · have dt : decide (tt ≤ (T'.base : Int) + 256 + 2) = true := by simp; omega
      by_cases htq : q.t ≤ tt
      · --BEGIN 3
        have dq1 : decide (q.t ≤ tt) = true := by simp [htq]
        obtain ⟨j, hj⟩ : ∃ j, min (tt - q.t).toNat (pn - 1) = j := ⟨_, rfl⟩
        have hjl : j < path.length := by rw [HPN.out]; omega
        have hg : path[j]? = some (path.getD j 0) := by rw [List.getD_eq_getElem?_getD, List.getElem?_eq_getElem hjl]; rfl
        have HWT : Hid (cellAt q.t path tt = path.getD j 0) := by unfold Hid cellAt; rw [if_neg (by omega), HPN.out, hj]
        have HWO : Hid (q.t ≤ tt → path.getD (min (tt - q.t).toNat (path.length - 1)) 0 = path.getD j 0) := fun _ => by rw [HPN.out, hj]
        generalize path.getD j 0 = c at *
        obtain ⟨res, hres⟩ : ∃ y, doneC tt done = y := ⟨_, rfl⟩
        have hr3 : res ≤ 300 := by have := doneC_le tt done; rw [HDN.out] at this; omega
        have HRES := hid hres
        have HRN : Hid (doneN tt done = res) := by unfold Hid; rw [← hres]; exact done_eq tt done HRS.out
        clear hres
        have CA : Hid (∀ w' : World, Below wr.heap.size wr w' → Calls Try.prog 39 #[.agg #[.int .u8 (0), .int .i64 (q.t), .slice po pn pc, .slice dq dn dc, .int .i64 (x)], .int .i64 (tt)] w' fun e w'' => e = .returned (.int .i64 (c)) ∧ ∃ z, w'' = w'.ext z) := fun w' h => by
          have := cellAt_any q.t x tt (.slice po pn pc) dq dn dc path lab w' (HE.out.below h).pp (by rw [HPN.out]; omega) (by omega) (by omega)
          rw [HWT.out] at this
          exact this
        have GD : Hid (∀ w' : World, Below wr.heap.size wr w' → Calls Try.prog 40 #[.agg #[.int .u8 (0), .int .i64 (q.t), .slice po pn pc, .slice dq dn dc, .int .i64 (x)], .int .i64 (tt)] w' fun e w'' => e = .returned (.int .i64 (res)) ∧ ∃ z, w'' = w'.ext z) := fun w' h => by
          have := goalsDone_any 0 q.t x tt po pn pc (.slice dq dn dc) done lab w' (HE.out.below h).pd (by rw [HDN.out]; omega)
          rw [HRN.out] at this
          exact this
        obtain ⟨bk, ba, n', cap', hv, hbl, -, cq⟩ := HE.out.pp.row j _ hg
        simp only [Value.slice.injEq] at hv
        obtain ⟨rfl, -, -⟩ := hv
        have hmin := fun (w : World) (ty : TypeId) => run_min w (tt - q.t) ((pn : Int) - 1) (j : Int) (by omega) ty
        have hjn : j < pn := by omega
        have djn : decide (j < pn) = true := by simp; omega
        clear hg hj hjl
        go_wp2_with (first | (go_at_call 25; refine (EN.out _ (by (repeat (first | with_reducible exact Below.rf _ | with_reducible exact World.below_ext _ _ | with_reducible refine Below.ex ?_ _ | with_reducible refine Below.al ?_ _ | with_reducible refine Below.setCell ?_ (by simp) _ | with_reducible refine Below.drew ?_)))).mono ?_; rintro e w' ⟨rfl, hw'⟩; obtain rfl := hw'.symm))
        refine dn_loop wr lab dn dc res tt _ done HE.out.pd HDN.out ⟨by omega, hr3⟩ HRES.out _ _ _ _ _ _ _ _ _ _ _ _ _ _ _ _ _ _ _ _ _ _ _ _ _ _ _ _ _ _ _ _ _ _ _ _ _ _ _ _ _ _ _ _ _ _ _ _ _ _ _ _ _ _ _ _ _ _ _ _ _ _ _ _ _ _ _ _ _ _ _ _ _ _ _ _ _ _ _ _ _ _ _ _ _ _ _ _ _ _ _ _ _ _ _ _ _ _ _ _ _ _ _ _ _ _ _ _ _ _ _ _ _ _ _ _ _ _ _ _ _ _ _ _ _ _ _ _ _ _ _ _ _ _ _ _ _ _ _ _ _ _ _ _ _ _ _ _ _ _ _ _ _ _ _ _ _ ?_
        intro aL wL hE
        obtain ⟨hwL, hE⟩ := hE
        obtain rfl := hwL.symm
        obtain ⟨u13, hE⟩ := hE
        obtain ⟨u93, hE⟩ := hE
        obtain ⟨u94, hE⟩ := hE
        obtain ⟨u95, hE⟩ := hE
        obtain ⟨u96, hE⟩ := hE
        obtain ⟨u97, hE⟩ := hE
        obtain ⟨u98, hE⟩ := hE
        obtain ⟨u99, hE⟩ := hE
        obtain ⟨u100, hE⟩ := hE
        obtain ⟨u101, hE⟩ := hE
        obtain ⟨u102, hE⟩ := hE
        obtain rfl := hE
        rcases HKD.out with ⟨hK, hent⟩ | ⟨hK, -⟩
        · have dK : (K != 5) = false := by simp [hK]
          have HENT := hid hent
          clear hK hent
          go_wp2_with (first | (go_at_call 39; refine (CA.out _ (by (repeat (first | with_reducible exact Below.rf _ | with_reducible exact World.below_ext _ _ | with_reducible refine Below.ex ?_ _ | with_reducible refine Below.al ?_ _ | with_reducible refine Below.setCell ?_ (by simp) _ | with_reducible refine Below.drew ?_)))).mono ?_; rintro e w' ⟨rfl, z, rfl⟩) | (go_at_call 40; refine (GD.out _ (by (repeat (first | with_reducible exact Below.rf _ | with_reducible exact World.below_ext _ _ | with_reducible refine Below.ex ?_ _ | with_reducible refine Below.al ?_ _ | with_reducible refine Below.setCell ?_ (by simp) _ | with_reducible refine Below.drew ?_)))).mono ?_; rintro e w' ⟨rfl, z2, rfl⟩))
          refine wp_nm fun wz hwz => ?_
          have hbz : Below wr.heap.size wr wz := by rw [hwz]; (repeat (first | with_reducible exact Below.rf _ | with_reducible exact World.below_ext _ _ | with_reducible refine Below.ex ?_ _ | with_reducible refine Below.al ?_ _ | with_reducible refine Below.setCell ?_ (by simp) _ | with_reducible refine Below.drew ?_))
          have HEz := hid (HE.out.below hbz)
          refine rb_loop wz lab labc d xb rb pb fb pn pc dn dc M Mc F T T' q x K tt _ gv _ _ path done HEz.out HENT.out HWO.out ⟨by omega, by omega⟩ _ _ _ _ _ _ _ _ _ _ _ _ _ _ _ _ _ _ _ _ _ _ _ _ _ _ _ _ _ _ _ _ _ _ _ _ _ _ _ _ _ _ _ _ _ _ _ _ _ _ _ _ _ _ _ _ _ _ _ _ _ _ _ _ _ _ _ _ _ _ _ _ _ _ _ _ _ _ _ _ _ _ _ _ _ _ _ _ _ _ _ _ _ _ _ _ _ _ _ _ _ _ _ _ _ _ _ _ _ _ _ _ _ _ _ _ _ _ _ _ _ _ _ _ _ _ _ _ _ _ _ _ _ _ _ _ _ _ _ _ _ _ _ _ _ _ _ _ _ _ _ _ _ _ _ _ ?_
          intro aL wL hE
          obtain ⟨hBL, hE⟩ := hE
          obtain ⟨u2, hE⟩ := hE
          obtain ⟨u14, hE⟩ := hE
          obtain ⟨u118, hE⟩ := hE
          obtain ⟨u119, hE⟩ := hE
          obtain ⟨u120, hE⟩ := hE
          obtain ⟨u121, hE⟩ := hE
          obtain ⟨u122, hE⟩ := hE
          obtain ⟨u123, hE⟩ := hE
          obtain ⟨u124, hE⟩ := hE
          obtain ⟨u125, hE⟩ := hE
          obtain ⟨u126, hE⟩ := hE
          obtain ⟨u127, hE⟩ := hE
          obtain ⟨u128, hE⟩ := hE
          obtain ⟨u129, hE⟩ := hE
          obtain ⟨u130, hE⟩ := hE
          obtain ⟨u131, hE⟩ := hE
          obtain ⟨u132, hE⟩ := hE
          obtain ⟨u133, hE⟩ := hE
          obtain ⟨u134, hE⟩ := hE
          obtain ⟨u135, hE⟩ := hE
          obtain ⟨u136, hE⟩ := hE
          obtain ⟨u137, hE⟩ := hE
          obtain ⟨u138, hE⟩ := hE
          obtain ⟨u139, hE⟩ := hE
          obtain ⟨u140, hE⟩ := hE
          obtain ⟨u141, hE⟩ := hE
          obtain ⟨u142, hE⟩ := hE
          obtain ⟨u143, hE⟩ := hE
          obtain ⟨u144, hE⟩ := hE
          obtain ⟨u145, hE⟩ := hE
          obtain ⟨u146, hE⟩ := hE
          obtain ⟨u147, hE⟩ := hE
          obtain ⟨u148, hE⟩ := hE
          obtain ⟨u149, hE⟩ := hE
          obtain ⟨u150, hE⟩ := hE
          obtain ⟨u151, hE⟩ := hE
          obtain ⟨u152, hE⟩ := hE
          obtain ⟨u153, hE⟩ := hE
          obtain ⟨u154, hE⟩ := hE
          obtain ⟨u155, hE⟩ := hE
          obtain ⟨u156, hE⟩ := hE
          obtain ⟨u157, hE⟩ := hE
          obtain ⟨u158, hE⟩ := hE
          obtain ⟨u159, hE⟩ := hE
          obtain rfl := hE
          have HBN : Hid (Below w7.heap.size w7 wL) := HB.out.trans ((hbz.trans (hBL.mono hbz.size)).mono HB.out.size)
          clear hwz hbz HEz hBL
          go_wp2
          go_roundw
          case rel => exact ⟨tt + 1, by go_num, by omega, by omega, HBN.out⟩
          case measure => (simp [intOf] <;> omega)
        · have dK : (K != 5) = true := by simp [hK]
          clear hK
          go_wp2_with (first | (go_at_call 39; refine (CA.out _ (by (repeat (first | with_reducible exact Below.rf _ | with_reducible exact World.below_ext _ _ | with_reducible refine Below.ex ?_ _ | with_reducible refine Below.al ?_ _ | with_reducible refine Below.setCell ?_ (by simp) _ | with_reducible refine Below.drew ?_)))).mono ?_; rintro e w' ⟨rfl, z, rfl⟩) | (go_at_call 40; refine (GD.out _ (by (repeat (first | with_reducible exact Below.rf _ | with_reducible exact World.below_ext _ _ | with_reducible refine Below.ex ?_ _ | with_reducible refine Below.al ?_ _ | with_reducible refine Below.setCell ?_ (by simp) _ | with_reducible refine Below.drew ?_)))).mono ?_; rintro e w' ⟨rfl, z2, rfl⟩))
          go_roundw
          case rel => exact ⟨tt + 1, by go_num, by omega, by omega, HB.out.trans (Below.mono (by (repeat (first | with_reducible exact Below.rf _ | with_reducible exact World.below_ext _ _ | with_reducible refine Below.ex ?_ _ | with_reducible refine Below.al ?_ _ | with_reducible refine Below.setCell ?_ (by simp) _ | with_reducible refine Below.drew ?_))) HB.out.size)⟩
          case measure => (simp [intOf] <;> omega)
        --END 3
      · --BEGIN 4
        have dq1 : decide (q.t ≤ tt) = false := by simp; omega
        obtain ⟨c, hc⟩ : ∃ c : Int, c = -1 := ⟨_, rfl⟩
        have HWT : Hid (cellAt q.t path tt = c) := by unfold Hid cellAt; rw [if_pos (by omega), hc]
        have HWO : Hid (q.t ≤ tt → path.getD (min (tt - q.t).toNat (path.length - 1)) 0 = c) := fun h => absurd h htq
        subst hc
        obtain ⟨res, hres⟩ : ∃ y, doneC tt done = y := ⟨_, rfl⟩
        have hr3 : res ≤ 300 := by have := doneC_le tt done; rw [HDN.out] at this; omega
        have HRES := hid hres
        have HRN : Hid (doneN tt done = res) := by unfold Hid; rw [← hres]; exact done_eq tt done HRS.out
        clear hres
        have CA : Hid (∀ w' : World, Below wr.heap.size wr w' → Calls Try.prog 39 #[.agg #[.int .u8 (0), .int .i64 (q.t), .slice po pn pc, .slice dq dn dc, .int .i64 (x)], .int .i64 (tt)] w' fun e w'' => e = .returned (.int .i64 (-1)) ∧ ∃ z, w'' = w'.ext z) := fun w' h => by
          have := cellAt_any q.t x tt (.slice po pn pc) dq dn dc path lab w' (HE.out.below h).pp (by rw [HPN.out]; omega) (by omega) (by omega)
          rw [HWT.out] at this
          exact this
        have GD : Hid (∀ w' : World, Below wr.heap.size wr w' → Calls Try.prog 40 #[.agg #[.int .u8 (0), .int .i64 (q.t), .slice po pn pc, .slice dq dn dc, .int .i64 (x)], .int .i64 (tt)] w' fun e w'' => e = .returned (.int .i64 (res)) ∧ ∃ z, w'' = w'.ext z) := fun w' h => by
          have := goalsDone_any 0 q.t x tt po pn pc (.slice dq dn dc) done lab w' (HE.out.below h).pd (by rw [HDN.out]; omega)
          rw [HRN.out] at this
          exact this
        go_wp2_with (first | (go_at_call 25; refine (EN.out _ (by (repeat (first | with_reducible exact Below.rf _ | with_reducible exact World.below_ext _ _ | with_reducible refine Below.ex ?_ _ | with_reducible refine Below.al ?_ _ | with_reducible refine Below.setCell ?_ (by simp) _ | with_reducible refine Below.drew ?_)))).mono ?_; rintro e w' ⟨rfl, hw'⟩; obtain rfl := hw'.symm))
        refine dn_loop wr lab dn dc res tt _ done HE.out.pd HDN.out ⟨by omega, hr3⟩ HRES.out _ _ _ _ _ _ _ _ _ _ _ _ _ _ _ _ _ _ _ _ _ _ _ _ _ _ _ _ _ _ _ _ _ _ _ _ _ _ _ _ _ _ _ _ _ _ _ _ _ _ _ _ _ _ _ _ _ _ _ _ _ _ _ _ _ _ _ _ _ _ _ _ _ _ _ _ _ _ _ _ _ _ _ _ _ _ _ _ _ _ _ _ _ _ _ _ _ _ _ _ _ _ _ _ _ _ _ _ _ _ _ _ _ _ _ _ _ _ _ _ _ _ _ _ _ _ _ _ _ _ _ _ _ _ _ _ _ _ _ _ _ _ _ _ _ _ _ _ _ _ _ _ _ _ _ _ _ ?_
        intro aL wL hE
        obtain ⟨hwL, hE⟩ := hE
        obtain rfl := hwL.symm
        obtain ⟨u13, hE⟩ := hE
        obtain ⟨u93, hE⟩ := hE
        obtain ⟨u94, hE⟩ := hE
        obtain ⟨u95, hE⟩ := hE
        obtain ⟨u96, hE⟩ := hE
        obtain ⟨u97, hE⟩ := hE
        obtain ⟨u98, hE⟩ := hE
        obtain ⟨u99, hE⟩ := hE
        obtain ⟨u100, hE⟩ := hE
        obtain ⟨u101, hE⟩ := hE
        obtain ⟨u102, hE⟩ := hE
        obtain rfl := hE
        rcases HKD.out with ⟨hK, hent⟩ | ⟨hK, -⟩
        · have dK : (K != 5) = false := by simp [hK]
          have HENT := hid hent
          clear hK hent
          go_wp2_with (first | (go_at_call 39; refine (CA.out _ (by (repeat (first | with_reducible exact Below.rf _ | with_reducible exact World.below_ext _ _ | with_reducible refine Below.ex ?_ _ | with_reducible refine Below.al ?_ _ | with_reducible refine Below.setCell ?_ (by simp) _ | with_reducible refine Below.drew ?_)))).mono ?_; rintro e w' ⟨rfl, z, rfl⟩) | (go_at_call 40; refine (GD.out _ (by (repeat (first | with_reducible exact Below.rf _ | with_reducible exact World.below_ext _ _ | with_reducible refine Below.ex ?_ _ | with_reducible refine Below.al ?_ _ | with_reducible refine Below.setCell ?_ (by simp) _ | with_reducible refine Below.drew ?_)))).mono ?_; rintro e w' ⟨rfl, z2, rfl⟩))
          refine wp_nm fun wz hwz => ?_
          have hbz : Below wr.heap.size wr wz := by rw [hwz]; (repeat (first | with_reducible exact Below.rf _ | with_reducible exact World.below_ext _ _ | with_reducible refine Below.ex ?_ _ | with_reducible refine Below.al ?_ _ | with_reducible refine Below.setCell ?_ (by simp) _ | with_reducible refine Below.drew ?_))
          have HEz := hid (HE.out.below hbz)
          refine rb_loop wz lab labc d xb rb pb fb pn pc dn dc M Mc F T T' q x K tt _ gv _ _ path done HEz.out HENT.out HWO.out ⟨by omega, by omega⟩ _ _ _ _ _ _ _ _ _ _ _ _ _ _ _ _ _ _ _ _ _ _ _ _ _ _ _ _ _ _ _ _ _ _ _ _ _ _ _ _ _ _ _ _ _ _ _ _ _ _ _ _ _ _ _ _ _ _ _ _ _ _ _ _ _ _ _ _ _ _ _ _ _ _ _ _ _ _ _ _ _ _ _ _ _ _ _ _ _ _ _ _ _ _ _ _ _ _ _ _ _ _ _ _ _ _ _ _ _ _ _ _ _ _ _ _ _ _ _ _ _ _ _ _ _ _ _ _ _ _ _ _ _ _ _ _ _ _ _ _ _ _ _ _ _ _ _ _ _ _ _ _ _ _ _ _ ?_
          intro aL wL hE
          obtain ⟨hBL, hE⟩ := hE
          obtain ⟨u2, hE⟩ := hE
          obtain ⟨u14, hE⟩ := hE
          obtain ⟨u118, hE⟩ := hE
          obtain ⟨u119, hE⟩ := hE
          obtain ⟨u120, hE⟩ := hE
          obtain ⟨u121, hE⟩ := hE
          obtain ⟨u122, hE⟩ := hE
          obtain ⟨u123, hE⟩ := hE
          obtain ⟨u124, hE⟩ := hE
          obtain ⟨u125, hE⟩ := hE
          obtain ⟨u126, hE⟩ := hE
          obtain ⟨u127, hE⟩ := hE
          obtain ⟨u128, hE⟩ := hE
          obtain ⟨u129, hE⟩ := hE
          obtain ⟨u130, hE⟩ := hE
          obtain ⟨u131, hE⟩ := hE
          obtain ⟨u132, hE⟩ := hE
          obtain ⟨u133, hE⟩ := hE
          obtain ⟨u134, hE⟩ := hE
          obtain ⟨u135, hE⟩ := hE
          obtain ⟨u136, hE⟩ := hE
          obtain ⟨u137, hE⟩ := hE
          obtain ⟨u138, hE⟩ := hE
          obtain ⟨u139, hE⟩ := hE
          obtain ⟨u140, hE⟩ := hE
          obtain ⟨u141, hE⟩ := hE
          obtain ⟨u142, hE⟩ := hE
          obtain ⟨u143, hE⟩ := hE
          obtain ⟨u144, hE⟩ := hE
          obtain ⟨u145, hE⟩ := hE
          obtain ⟨u146, hE⟩ := hE
          obtain ⟨u147, hE⟩ := hE
          obtain ⟨u148, hE⟩ := hE
          obtain ⟨u149, hE⟩ := hE
          obtain ⟨u150, hE⟩ := hE
          obtain ⟨u151, hE⟩ := hE
          obtain ⟨u152, hE⟩ := hE
          obtain ⟨u153, hE⟩ := hE
          obtain ⟨u154, hE⟩ := hE
          obtain ⟨u155, hE⟩ := hE
          obtain ⟨u156, hE⟩ := hE
          obtain ⟨u157, hE⟩ := hE
          obtain ⟨u158, hE⟩ := hE
          obtain ⟨u159, hE⟩ := hE
          obtain rfl := hE
          have HBN : Hid (Below w7.heap.size w7 wL) := HB.out.trans ((hbz.trans (hBL.mono hbz.size)).mono HB.out.size)
          clear hwz hbz HEz hBL
          go_wp2
          go_roundw
          case rel => exact ⟨tt + 1, by go_num, by omega, by omega, HBN.out⟩
          case measure => (simp [intOf] <;> omega)
        · have dK : (K != 5) = true := by simp [hK]
          clear hK
          go_wp2_with (first | (go_at_call 39; refine (CA.out _ (by (repeat (first | with_reducible exact Below.rf _ | with_reducible exact World.below_ext _ _ | with_reducible refine Below.ex ?_ _ | with_reducible refine Below.al ?_ _ | with_reducible refine Below.setCell ?_ (by simp) _ | with_reducible refine Below.drew ?_)))).mono ?_; rintro e w' ⟨rfl, z, rfl⟩) | (go_at_call 40; refine (GD.out _ (by (repeat (first | with_reducible exact Below.rf _ | with_reducible exact World.below_ext _ _ | with_reducible refine Below.ex ?_ _ | with_reducible refine Below.al ?_ _ | with_reducible refine Below.setCell ?_ (by simp) _ | with_reducible refine Below.drew ?_)))).mono ?_; rintro e w' ⟨rfl, z2, rfl⟩))
          go_roundw
          case rel => exact ⟨tt + 1, by go_num, by omega, by omega, HB.out.trans (Below.mono (by (repeat (first | with_reducible exact Below.rf _ | with_reducible exact World.below_ext _ _ | with_reducible refine Below.ex ?_ _ | with_reducible refine Below.al ?_ _ | with_reducible refine Below.setCell ?_ (by simp) _ | with_reducible refine Below.drew ?_))) HB.out.size)⟩
          case measure => (simp [intOf] <;> omega)
        --END 4
    · --BEGIN 5
      have dt : decide (tt ≤ (T'.base : Int) + 256 + 2) = false := by simp; omega
      go_wp2_with (first | (go_at_call 25; refine (EN.out _ (by (repeat (first | with_reducible exact Below.rf _ | with_reducible exact World.below_ext _ _ | with_reducible refine Below.ex ?_ _ | with_reducible refine Below.al ?_ _ | with_reducible refine Below.setCell ?_ (by simp) _ | with_reducible refine Below.drew ?_)))).mono ?_; rintro e w' ⟨rfl, hw'⟩; obtain rfl := hw'.symm))
      exact ⟨HB.out, _, _, _, _, _, _, _, _, _, _, _, _, _, _, _, _, _, _, _, _, _, _, _, _, _, _, _, _, _, _, _, _, _, _, _, _, _, _, _, _, _, _, _, _, _, _, _, _, _, _, _, _, _, _, _, _, _, _, _, _, _, _, _, _, _, _, _, _, _, _, _, _, _, _, _, _, _, _, _, _, _, _, _, _, _, _, _, _, _, _, _, _, _, _, _, _, _, _, _, _, _, _, _, rfl⟩
      --END 5
end Go.Proofs.Qxb6500716a
