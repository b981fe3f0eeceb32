/-
  EnteredPlanIsInTable: its loops, cut out.
-/
import Derived.Test.Qxb6500716aFx
import Derived.Test.Qxb6500716aEp
import Derived.Test.Qxb6500716aCe
namespace Go.Proofs.Qxb6500716a
open Go.RowKit Go.Maps
set_option linter.unusedSimpArgs false
set_option linter.unusedVariables false
set_option maxRecDepth 20000
set_option maxHeartbeats 4000000
def rqc (q : Rq) (gv : Value) : Nat → Value
  | 0 => .int .i64 (q.r)
  | 1 => .int .i64 (q.s)
  | 2 => .int .i64 (q.t)
  | 3 => gv
  | 4 => .int .i64 (q.h)
  | _ => .int .i64 (q.m)
def plc (t x : Int) (pv dv : Value) : Nat → Value
  | 0 => .int .u8 0
  | 1 => .int .i64 (t)
  | 2 => pv
  | 3 => dv
  | _ => .int .i64 (x)
/-- All that the checks of one plan read. -/
structure E8 (w : World) (lab labc : Nat → Nat) (d xb rb pb fb : Nat) (M Mc : TM) (F : FS) (T T' : TS) (q : Rq) (x K : Int) (gv pv dv : Value) (path done : List Int) : Prop where
  f : FAt w lab fb F
  t : TAt w lab M T'
  c : TAt w labc Mc T
  d0 : w.cell? ⟨d, 0, none⟩ = some (.pointer (some ⟨fb, 0, none⟩))
  d1 : w.cell? ⟨d, 1, none⟩ = some (.pointer (some ⟨M.t, 0, none⟩))
  dl : d < w.heap.size
  r : Blk w rb 6 (rqc q gv)
  p : Blk w pb 5 (plc q.t x pv dv)
  pp : Ints w lab pv path
  pd : Ints w lab dv done
  x0 : w.cell? ⟨xb, 0, none⟩ = some (.int .i64 (K))
  xl : xb < w.heap.size
theorem E8.below {w w' : World} {lab labc : Nat → Nat} {d xb rb pb fb : Nat} {M Mc : TM} {F : FS} {T T' : TS} {q : Rq} {x K : Int} {gv pv dv : Value} {path done : List Int} (h : E8 w lab labc d xb rb pb fb M Mc F T T' q x K gv pv dv path done) (hb : Below w.heap.size w w') : E8 w' lab labc d xb rb pb fb M Mc F T T' q x K gv pv dv path done :=
  ⟨h.f.below hb, h.t.below hb, h.c.below hb, (World.cell?_of_block (hb.block d h.dl)).trans h.d0, (World.cell?_of_block (hb.block d h.dl)).trans h.d1, Nat.lt_of_lt_of_le h.dl hb.size, h.r.below hb, h.p.below hb, h.pp.keptL (A := fun _ => False) (KeptL.of_below hb) (fun _ h => h.elim), h.pd.keptL (A := fun _ => False) (KeptL.of_below hb) (fun _ h => h.elim), (World.cell?_of_block (hb.block xb h.xl)).trans h.x0, Nat.lt_of_lt_of_le h.xl hb.size⟩
set_option maxRecDepth 1000000 in
set_option maxHeartbeats 400000000 in
theorem rb_loop (w7 : World) (lab labc : Nat → Nat) (d xb rb pb fb pn pc dn dc : Nat) (M Mc : TM) (F : FS) (T T' : TS) (q : Rq) (x K tt c : Int) (gv : Value) (po dq : Option Addr) (path done : List Int)
    (HE7 : E8 w7 lab labc d xb rb pb fb M Mc F T T' q x K gv (.slice po pn pc) (.slice dq dn dc) path done) (hent : Ent T T' q.r q.t path) (hwo : q.t ≤ tt → path.getD (min (tt - q.t).toNat (path.length - 1)) 0 = c) (htt : -4000000000 ≤ tt ∧ tt ≤ 4000000000)
    (Q0 : Exit → Act → World → Prop) (x0 x1 x2 x4 x5 x8 x11 x12 x13 x15 x16 x17 x18 x19 x20 x21 x22 x23 x24 x25 x26 x27 x28 x29 x30 x31 x32 x33 x34 x35 x36 x37 x38 x39 x40 x41 x42 x43 x44 x45 x46 x47 x48 x49 x50 x51 x52 x53 x54 x55 x56 x57 x58 x59 x60 x61 x62 x63 x64 x65 x66 x67 x68 x69 x70 x71 x72 x73 x74 x75 x76 x77 x78 x79 x80 x81 x82 x83 x84 x85 x86 x87 x88 x89 x90 x91 x92 x93 x94 x95 x96 x97 x98 x99 x100 x101 x102 x103 x104 x105 x106 x107 x108 x109 x110 x111 x112 x113 x114 x115 x116 x117 x118 x119 x120 x121 x122 x123 x124 x125 x126 x127 x128 x129 x130 x131 x132 x133 x134 x135 x136 x137 x138 x139 x140 x141 x142 x143 x144 x145 x146 x147 x148 x149 x150 x151 x152 x153 x154 x155 x156 x157 x158 x159 x160 : Value)
    (hexit : ∀ (a' : Act) (w'' : World), (Below w7.heap.size w7 w'' ∧ ∃ u2 u14 u118 u119 u120 u121 u122 u123 u124 u125 u126 u127 u128 u129 u130 u131 u132 u133 u134 u135 u136 u137 u138 u139 u140 u141 u142 u143 u144 u145 u146 u147 u148 u149 u150 u151 u152 u153 u154 u155 u156 u157 u158 u159 : Value, a' = ⟨List.toArray (x0 :: x1 :: u2 :: .pointer (some ⟨d, 0, none⟩) :: x4 :: x5 :: .pointer (some ⟨Mc.t, 0, none⟩) :: .pointer (some ⟨rb, 0, none⟩) :: x8 :: .int .i64 (tt) :: .int .i64 (c) :: x11 :: x12 :: x13 :: u14 :: x15 :: x16 :: x17 :: x18 :: x19 :: x20 :: x21 :: x22 :: x23 :: x24 :: x25 :: x26 :: x27 :: x28 :: x29 :: x30 :: x31 :: x32 :: x33 :: x34 :: x35 :: x36 :: x37 :: x38 :: x39 :: x40 :: x41 :: x42 :: x43 :: x44 :: x45 :: x46 :: x47 :: x48 :: x49 :: x50 :: x51 :: x52 :: x53 :: x54 :: x55 :: x56 :: x57 :: x58 :: x59 :: x60 :: x61 :: x62 :: x63 :: x64 :: x65 :: x66 :: x67 :: x68 :: x69 :: x70 :: x71 :: x72 :: x73 :: x74 :: x75 :: x76 :: x77 :: x78 :: x79 :: x80 :: x81 :: x82 :: x83 :: x84 :: x85 :: x86 :: x87 :: x88 :: x89 :: x90 :: x91 :: x92 :: x93 :: x94 :: x95 :: x96 :: x97 :: x98 :: x99 :: x100 :: x101 :: x102 :: x103 :: x104 :: x105 :: x106 :: x107 :: x108 :: x109 :: x110 :: x111 :: x112 :: x113 :: x114 :: x115 :: x116 :: x117 :: u118 :: u119 :: u120 :: u121 :: u122 :: u123 :: u124 :: u125 :: u126 :: u127 :: u128 :: u129 :: u130 :: u131 :: u132 :: u133 :: u134 :: u135 :: u136 :: u137 :: u138 :: u139 :: u140 :: u141 :: u142 :: u143 :: u144 :: u145 :: u146 :: u147 :: u148 :: u149 :: u150 :: u151 :: u152 :: u153 :: u154 :: u155 :: u156 :: u157 :: u158 :: u159 :: x160 :: []), []⟩) → Q0 (.exit 6) a' w'') :
    Code.wp Try.prog ((Try.f8.body.bind (findBlock 6)).getD .skip) Q0 ⟨List.toArray (x0 :: x1 :: x2 :: .pointer (some ⟨d, 0, none⟩) :: x4 :: x5 :: .pointer (some ⟨Mc.t, 0, none⟩) :: .pointer (some ⟨rb, 0, none⟩) :: x8 :: .int .i64 (tt) :: .int .i64 (c) :: x11 :: x12 :: x13 :: .int .i64 (0) :: x15 :: x16 :: x17 :: x18 :: x19 :: x20 :: x21 :: x22 :: x23 :: x24 :: x25 :: x26 :: x27 :: x28 :: x29 :: x30 :: x31 :: x32 :: x33 :: x34 :: x35 :: x36 :: x37 :: x38 :: x39 :: x40 :: x41 :: x42 :: x43 :: x44 :: x45 :: x46 :: x47 :: x48 :: x49 :: x50 :: x51 :: x52 :: x53 :: x54 :: x55 :: x56 :: x57 :: x58 :: x59 :: x60 :: x61 :: x62 :: x63 :: x64 :: x65 :: x66 :: x67 :: x68 :: x69 :: x70 :: x71 :: x72 :: x73 :: x74 :: x75 :: x76 :: x77 :: x78 :: x79 :: x80 :: x81 :: x82 :: x83 :: x84 :: x85 :: x86 :: x87 :: x88 :: x89 :: x90 :: x91 :: x92 :: x93 :: x94 :: x95 :: x96 :: x97 :: x98 :: x99 :: x100 :: x101 :: x102 :: x103 :: x104 :: x105 :: x106 :: x107 :: x108 :: x109 :: x110 :: x111 :: x112 :: x113 :: x114 :: x115 :: x116 :: x117 :: x118 :: x119 :: x120 :: x121 :: x122 :: x123 :: x124 :: x125 :: x126 :: x127 :: x128 :: x129 :: x130 :: x131 :: x132 :: x133 :: x134 :: x135 :: x136 :: x137 :: x138 :: x139 :: x140 :: x141 :: x142 :: x143 :: x144 :: x145 :: x146 :: x147 :: x148 :: x149 :: x150 :: x151 :: x152 :: x153 :: x154 :: x155 :: x156 :: x157 :: x158 :: x159 :: x160 :: []), []⟩ w7 := by
  conv => arg 2; whnf
  have HE7 := hid HE7
  have HENT := hid hent
  have HWO := hid hwo
  have hnbl := HE7.out.f.ok.nb.2
  obtain ⟨nb, hnb⟩ : ∃ y, F.bays.length = y := ⟨_, rfl⟩
  rw [hnb] at hnbl
  have HNB := hid hnb
  clear hent hwo hnb
  go_loopw [14] (fun v wr => ∃ k : Nat, v = .int .i64 (k) ∧ k ≤ nb ∧ Below w7.heap.size w7 wr) (fun v _ => nb - (intOf v).toNat)
  case atStart => exact ⟨0, rfl, Nat.zero_le _, Below.rf _⟩
  case round =>
    obtain ⟨k, rfl, hk, hB⟩ := hrel
    have HB := hid hB
    have HE := hid (HE7.out.below hB)
    clear hB
    have e0 := HE.out.d0
    have e1 := HE.out.d1
    have hdx := HE.out.dl
    have r0 : (wr).cell? ⟨rb, 0, none⟩ = some (.int .i64 (q.r)) := HE.out.r.is 0 (by omega)
    have r2 : (wr).cell? ⟨rb, 2, none⟩ = some (.int .i64 (q.t)) := HE.out.r.is 2 (by omega)
    have hrx := HE.out.r.lt
    have p0 : (wr).cell? ⟨pb, 0, none⟩ = some (.int .u8 0) := HE.out.p.is 0 (by omega)
    have p1 : (wr).cell? ⟨pb, 1, none⟩ = some (.int .i64 (q.t)) := HE.out.p.is 1 (by omega)
    have p2 : (wr).cell? ⟨pb, 2, none⟩ = some (.slice po pn pc) := HE.out.p.is 2 (by omega)
    have p3 : (wr).cell? ⟨pb, 3, none⟩ = some (.slice dq dn dc) := HE.out.p.is 3 (by omega)
    have p4 : (wr).cell? ⟨pb, 4, none⟩ = some (.int .i64 (x)) := HE.out.p.is 4 (by omega)
    have hpx := HE.out.p.lt
    have k0 := HE.out.x0
    have hkx := HE.out.xl
    have RO : Hid (∀ w' : World, Below wr.heap.size wr w' → Calls Try.prog 23 #[.pointer (some ⟨fb, 0, none⟩)] w' fun e w'' => e = .returned (.int .i64 (nb)) ∧ w'' = w') := fun w' h => by
      have := robots_any fb F lab w' (HE.out.below h).f
      rw [HNB.out] at this
      exact this
    by_cases hkn : k < nb
    · have dkb : decide ((k : Int) < (nb : Int)) = true := by simp; omega
      have dkbn : decide (k < nb) = true := by simp; omega
      have I1 : I64 (k : Int) := by unfold I64; omega
      have I2 : I64 tt := by unfold I64; omega
      obtain ⟨v, hv⟩ : ∃ y, T'.at k tt = y := ⟨_, rfl⟩
      have AT : Hid (∀ w' : World, Below wr.heap.size wr w' → Calls Try.prog 24 #[.pointer (some ⟨M.t, 0, none⟩), .int .i64 (k), .int .i64 (tt)] w' fun e w'' => e = .returned (.int .i64 (v)) ∧ ∃ z, w'' = w'.ext z) := fun w' h => by
        have := at_any M T' lab k tt w' (HE.out.below h).t I1 I2
        rw [hv] at this
        exact this
      by_cases hkr : (k : Int) = q.r
      · have dr : ((k : Int) == q.r) = true := by simp [hkr]
        by_cases htq2 : q.t ≤ tt
        · have dq2 : decide (q.t ≤ tt) = true := by simp [htq2]
          have hvc : v = c := by
            rw [← hv, hkr, HENT.out.own tt htq2 (by omega)]
            exact HWO.out htq2
          subst hvc
          clear hv hkr I1 I2
          go_wp2_with (first | (go_at_call 23; refine (RO.out _ (by (repeat (first | with_reducible exact Below.rf _ | with_reducible exact World.below_ext _ _ | with_reducible refine Below.ex ?_ _ | with_reducible refine Below.al ?_ _ | with_reducible refine Below.setCell ?_ (by simp) _ | with_reducible refine Below.drew ?_)))).mono ?_; rintro e w' ⟨rfl, hw'⟩; obtain rfl := hw'.symm) | (go_at_call 24; with_reducible refine (AT.out _ (by (repeat (first | with_reducible exact Below.rf _ | with_reducible exact World.below_ext _ _ | with_reducible refine Below.ex ?_ _ | with_reducible refine Below.al ?_ _ | with_reducible refine Below.setCell ?_ (by simp) _ | with_reducible refine Below.drew ?_)))).mono ?_; rintro e w' ⟨rfl, z3, rfl⟩))
          go_roundw
          case rel => exact ⟨k + 1, by go_num, by omega, HB.out.trans (Below.mono (by (repeat (first | with_reducible exact Below.rf _ | with_reducible exact World.below_ext _ _ | with_reducible refine Below.ex ?_ _ | with_reducible refine Below.al ?_ _ | with_reducible refine Below.setCell ?_ (by simp) _ | with_reducible refine Below.drew ?_))) HB.out.size)⟩
          case measure => (simp [intOf] <;> omega)
        · have dq2 : decide (q.t ≤ tt) = false := by simp; omega
          have hvo : T.at k tt = v := by
            rw [← hv, hkr, HENT.out.old tt (by omega)]
          have AC : Hid (∀ w' : World, Below wr.heap.size wr w' → Calls Try.prog 24 #[.pointer (some ⟨Mc.t, 0, none⟩), .int .i64 (k), .int .i64 (tt)] w' fun e w'' => e = .returned (.int .i64 (v)) ∧ ∃ z, w'' = w'.ext z) := fun w' h => by
            have := at_any Mc T labc k tt w' (HE.out.below h).c I1 I2
            rw [hvo] at this
            exact this
          clear hv hkr hvo I1 I2
          go_wp2_with (first | (go_at_call 23; refine (RO.out _ (by (repeat (first | with_reducible exact Below.rf _ | with_reducible exact World.below_ext _ _ | with_reducible refine Below.ex ?_ _ | with_reducible refine Below.al ?_ _ | with_reducible refine Below.setCell ?_ (by simp) _ | with_reducible refine Below.drew ?_)))).mono ?_; rintro e w' ⟨rfl, hw'⟩; obtain rfl := hw'.symm) | (go_at_call 24; with_reducible refine (AT.out _ (by (repeat (first | with_reducible exact Below.rf _ | with_reducible exact World.below_ext _ _ | with_reducible refine Below.ex ?_ _ | with_reducible refine Below.al ?_ _ | with_reducible refine Below.setCell ?_ (by simp) _ | with_reducible refine Below.drew ?_)))).mono ?_; rintro e w' ⟨rfl, z3, rfl⟩) | (go_at_call 24; with_reducible refine (AC.out _ (by (repeat (first | with_reducible exact Below.rf _ | with_reducible exact World.below_ext _ _ | with_reducible refine Below.ex ?_ _ | with_reducible refine Below.al ?_ _ | with_reducible refine Below.setCell ?_ (by simp) _ | with_reducible refine Below.drew ?_)))).mono ?_; rintro e w' ⟨rfl, z4, rfl⟩))
          go_roundw
          case rel => exact ⟨k + 1, by go_num, by omega, HB.out.trans (Below.mono (by (repeat (first | with_reducible exact Below.rf _ | with_reducible exact World.below_ext _ _ | with_reducible refine Below.ex ?_ _ | with_reducible refine Below.al ?_ _ | with_reducible refine Below.setCell ?_ (by simp) _ | with_reducible refine Below.drew ?_))) HB.out.size)⟩
          case measure => (simp [intOf] <;> omega)
      · have dr : ((k : Int) == q.r) = false := by simp [hkr]
        have hvo : T.at k tt = v := by
          rw [← hv, HENT.out.oth k tt hkr]
        have AC : Hid (∀ w' : World, Below wr.heap.size wr w' → Calls Try.prog 24 #[.pointer (some ⟨Mc.t, 0, none⟩), .int .i64 (k), .int .i64 (tt)] w' fun e w'' => e = .returned (.int .i64 (v)) ∧ ∃ z, w'' = w'.ext z) := fun w' h => by
          have := at_any Mc T labc k tt w' (HE.out.below h).c I1 I2
          rw [hvo] at this
          exact this
        clear hv hkr hvo I1 I2
        go_wp2_with (first | (go_at_call 23; refine (RO.out _ (by (repeat (first | with_reducible exact Below.rf _ | with_reducible exact World.below_ext _ _ | with_reducible refine Below.ex ?_ _ | with_reducible refine Below.al ?_ _ | with_reducible refine Below.setCell ?_ (by simp) _ | with_reducible refine Below.drew ?_)))).mono ?_; rintro e w' ⟨rfl, hw'⟩; obtain rfl := hw'.symm) | (go_at_call 24; with_reducible refine (AT.out _ (by (repeat (first | with_reducible exact Below.rf _ | with_reducible exact World.below_ext _ _ | with_reducible refine Below.ex ?_ _ | with_reducible refine Below.al ?_ _ | with_reducible refine Below.setCell ?_ (by simp) _ | with_reducible refine Below.drew ?_)))).mono ?_; rintro e w' ⟨rfl, z3, rfl⟩) | (go_at_call 24; with_reducible refine (AC.out _ (by (repeat (first | with_reducible exact Below.rf _ | with_reducible exact World.below_ext _ _ | with_reducible refine Below.ex ?_ _ | with_reducible refine Below.al ?_ _ | with_reducible refine Below.setCell ?_ (by simp) _ | with_reducible refine Below.drew ?_)))).mono ?_; rintro e w' ⟨rfl, z4, rfl⟩))
        go_roundw
        case rel => exact ⟨k + 1, by go_num, by omega, HB.out.trans (Below.mono (by (repeat (first | with_reducible exact Below.rf _ | with_reducible exact World.below_ext _ _ | with_reducible refine Below.ex ?_ _ | with_reducible refine Below.al ?_ _ | with_reducible refine Below.setCell ?_ (by simp) _ | with_reducible refine Below.drew ?_))) HB.out.size)⟩
        case measure => (simp [intOf] <;> omega)
    · have dkb : decide ((k : Int) < (nb : Int)) = false := by simp; omega
      have dkbn : decide (k < nb) = false := by simp; omega
      go_wp2_with (first | (go_at_call 23; refine (RO.out _ (by (repeat (first | with_reducible exact Below.rf _ | with_reducible exact World.below_ext _ _ | with_reducible refine Below.ex ?_ _ | with_reducible refine Below.al ?_ _ | with_reducible refine Below.setCell ?_ (by simp) _ | with_reducible refine Below.drew ?_)))).mono ?_; rintro e w' ⟨rfl, hw'⟩; obtain rfl := hw'.symm))
      exact ⟨HB.out, _, _, _, _, _, _, _, _, _, _, _, _, _, _, _, _, _, _, _, _, _, _, _, _, _, _, _, _, _, _, _, _, _, _, _, _, _, _, _, _, _, _, _, _, rfl⟩
set_option maxRecDepth 1000000 in
set_option maxHeartbeats 400000000 in
theorem dn_loop (wP : World) (lab : Nat → Nat) (dn dc res : Nat) (tt : Int) (dq : Option Addr) (done : List Int)
    (hpd : Ints wP lab (.slice dq dn dc) done) (hdn : done.length = dn) (hln : dn ≤ 300 ∧ res ≤ 300) (hres : doneC tt done = res)
    (Q0 : Exit → Act → World → Prop) (x0 x1 x2 x3 x4 x5 x6 x7 x8 x10 x12 x13 x14 x15 x16 x17 x18 x19 x20 x21 x22 x23 x24 x25 x26 x27 x28 x29 x30 x31 x32 x33 x34 x35 x36 x37 x38 x39 x40 x41 x42 x43 x44 x45 x46 x47 x48 x49 x50 x51 x52 x53 x54 x55 x56 x57 x58 x59 x60 x61 x62 x63 x64 x65 x66 x67 x68 x69 x70 x71 x72 x73 x74 x75 x76 x77 x78 x79 x80 x81 x82 x83 x84 x85 x86 x87 x88 x89 x90 x94 x95 x96 x97 x98 x99 x100 x101 x102 x103 x104 x105 x106 x107 x108 x109 x110 x111 x112 x113 x114 x115 x116 x117 x118 x119 x120 x121 x122 x123 x124 x125 x126 x127 x128 x129 x130 x131 x132 x133 x134 x135 x136 x137 x138 x139 x140 x141 x142 x143 x144 x145 x146 x147 x148 x149 x150 x151 x152 x153 x154 x155 x156 x157 x158 x159 x160 : Value)
    (hexit : ∀ (a' : Act) (w'' : World), (w'' = wP ∧ ∃ u13 u93 u94 u95 u96 u97 u98 u99 u100 u101 u102 : Value, a' = ⟨List.toArray (x0 :: x1 :: x2 :: x3 :: x4 :: x5 :: x6 :: x7 :: x8 :: .int .i64 (tt) :: x10 :: .int .i64 (res) :: x12 :: u13 :: x14 :: x15 :: x16 :: x17 :: x18 :: x19 :: x20 :: x21 :: x22 :: x23 :: x24 :: x25 :: x26 :: x27 :: x28 :: x29 :: x30 :: x31 :: x32 :: x33 :: x34 :: x35 :: x36 :: x37 :: x38 :: x39 :: x40 :: x41 :: x42 :: x43 :: x44 :: x45 :: x46 :: x47 :: x48 :: x49 :: x50 :: x51 :: x52 :: x53 :: x54 :: x55 :: x56 :: x57 :: x58 :: x59 :: x60 :: x61 :: x62 :: x63 :: x64 :: x65 :: x66 :: x67 :: x68 :: x69 :: x70 :: x71 :: x72 :: x73 :: x74 :: x75 :: x76 :: x77 :: x78 :: x79 :: x80 :: x81 :: x82 :: x83 :: x84 :: x85 :: x86 :: x87 :: x88 :: x89 :: x90 :: (.slice dq dn dc) :: .int .i64 (dn) :: u93 :: u94 :: u95 :: u96 :: u97 :: u98 :: u99 :: u100 :: u101 :: u102 :: x103 :: x104 :: x105 :: x106 :: x107 :: x108 :: x109 :: x110 :: x111 :: x112 :: x113 :: x114 :: x115 :: x116 :: x117 :: x118 :: x119 :: x120 :: x121 :: x122 :: x123 :: x124 :: x125 :: x126 :: x127 :: x128 :: x129 :: x130 :: x131 :: x132 :: x133 :: x134 :: x135 :: x136 :: x137 :: x138 :: x139 :: x140 :: x141 :: x142 :: x143 :: x144 :: x145 :: x146 :: x147 :: x148 :: x149 :: x150 :: x151 :: x152 :: x153 :: x154 :: x155 :: x156 :: x157 :: x158 :: x159 :: x160 :: []), []⟩) → Q0 (.exit 4) a' w'') :
    Code.wp Try.prog ((Try.f8.body.bind (findBlock 4)).getD .skip) Q0 ⟨List.toArray (x0 :: x1 :: x2 :: x3 :: x4 :: x5 :: x6 :: x7 :: x8 :: .int .i64 (tt) :: x10 :: .int .i64 (0) :: x12 :: x13 :: x14 :: x15 :: x16 :: x17 :: x18 :: x19 :: x20 :: x21 :: x22 :: x23 :: x24 :: x25 :: x26 :: x27 :: x28 :: x29 :: x30 :: x31 :: x32 :: x33 :: x34 :: x35 :: x36 :: x37 :: x38 :: x39 :: x40 :: x41 :: x42 :: x43 :: x44 :: x45 :: x46 :: x47 :: x48 :: x49 :: x50 :: x51 :: x52 :: x53 :: x54 :: x55 :: x56 :: x57 :: x58 :: x59 :: x60 :: x61 :: x62 :: x63 :: x64 :: x65 :: x66 :: x67 :: x68 :: x69 :: x70 :: x71 :: x72 :: x73 :: x74 :: x75 :: x76 :: x77 :: x78 :: x79 :: x80 :: x81 :: x82 :: x83 :: x84 :: x85 :: x86 :: x87 :: x88 :: x89 :: x90 :: (.slice dq dn dc) :: .int .i64 (dn) :: .int .i64 (0) :: x94 :: x95 :: x96 :: x97 :: x98 :: x99 :: x100 :: x101 :: x102 :: x103 :: x104 :: x105 :: x106 :: x107 :: x108 :: x109 :: x110 :: x111 :: x112 :: x113 :: x114 :: x115 :: x116 :: x117 :: x118 :: x119 :: x120 :: x121 :: x122 :: x123 :: x124 :: x125 :: x126 :: x127 :: x128 :: x129 :: x130 :: x131 :: x132 :: x133 :: x134 :: x135 :: x136 :: x137 :: x138 :: x139 :: x140 :: x141 :: x142 :: x143 :: x144 :: x145 :: x146 :: x147 :: x148 :: x149 :: x150 :: x151 :: x152 :: x153 :: x154 :: x155 :: x156 :: x157 :: x158 :: x159 :: x160 :: []), []⟩ wP := by
  conv => arg 2; whnf
  have HPD := hid hpd
  have HDN := hid hdn
  have HRES := hid hres
  clear hpd hdn hres
  go_loopw [11, 93] (fun v y wi => ∃ cn k : Nat, v = .int .i64 (cn) ∧ y = .int .i64 (k) ∧ k ≤ dn ∧ cn + doneC tt (done.drop k) = res ∧ wi = wP) (fun _ y _ => dn - (intOf y).toNat)
  case atStart => exact ⟨0, 0, rfl, rfl, Nat.zero_le _, by rw [← HRES.out]; simp, rfl⟩
  case round =>
    obtain ⟨cn, k, rfl, rfl, hk, hcn, hwi⟩ := hrel
    obtain rfl := hwi.symm
    by_cases hkd : k < dn
    · have dk : decide ((k : Int) < (dn : Int)) = true := by simp; omega
      have dkn : decide (k < dn) = true := by simp; omega
      have hkl : k < done.length := by rw [HDN.out]; exact hkd
      have hx : done[k]? = some done[k] := List.getElem?_eq_getElem hkl
      rw [List.drop_eq_getElem_cons hkl, doneC] at hcn
      generalize done[k] = dd at *
      obtain ⟨bk2, ba2, n2', cap2', hv2, hbl2, -, cq2⟩ := HPD.out.row k _ hx
      simp only [Value.slice.injEq] at hv2
      obtain ⟨rfl, -, -⟩ := hv2
      by_cases hd : dd ≤ tt
      · rw [if_pos hd] at hcn
        have HCN := hid hcn
        have hcnb : cn ≤ 300 := by omega
        have dd1 : decide (dd ≤ tt) = true := by simp [hd]
        clear hcn hx
        go_wp2
        go_roundw
        case rel => exact ⟨cn + 1, k + 1, by go_num, by go_num, by omega, by have := HCN.out; omega, trivial⟩
        case measure => (simp [intOf] <;> omega)
      · rw [if_neg hd] at hcn
        have HCN := hid hcn
        have dd1 : decide (dd ≤ tt) = false := by simp; omega
        clear hcn hx
        go_wp2
        go_roundw
        case rel => exact ⟨cn, k + 1, rfl, by go_num, by omega, by have := HCN.out; omega, trivial⟩
        case measure => (simp [intOf] <;> omega)
    · have dk : decide ((k : Int) < (dn : Int)) = false := by simp; omega
      have dkn : decide (k < dn) = false := by simp; omega
      rw [List.drop_eq_nil_of_le (by rw [HDN.out]; omega), doneC, Nat.add_zero] at hcn
      subst hcn
      go_wp2
end Go.Proofs.Qxb6500716a
