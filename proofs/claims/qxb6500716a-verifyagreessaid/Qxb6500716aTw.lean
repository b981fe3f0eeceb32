/-
  tamper: the walk.
-/
import Derived.Test.Qxb6500716aOw
import Derived.Test.Qxb6500716aLo
import Derived.Test.Qxb6500716aTi
namespace Go.Proofs.Qxb6500716a
open Go.RowKit Go.Maps
set_option linter.unusedSimpArgs false
set_option linter.unusedVariables false
set_option maxRecDepth 20000
set_option maxHeartbeats 4000000
theorem wpl_nm {P : Program} {ops : Array Oper} {Q : Exit → Act → World → Prop} {l : List Oper} {a : Act} {W : World} (h : ∀ w', w' = W → wpList P ops Q l a w') : wpList P ops Q l a W := h W rfl
theorem abs_any (x : Nat) (w : World) (hx : x ≤ 4611686018427387904) : Calls Try.prog 73 #[.int .i64 (x)] w fun e w' => e = .returned (.int .i64 (x)) ∧ w' = w := by
  have H : max (x : Int) (-(x : Int)) = (x : Int) := by omega
  go_enter Try.func73, Try.ntmps73
  go_wp2_with (with_reducible refine wpl_max rfl _ _ rfl _ _ (x : Int) (by with_unfolding_all rfl) (by with_unfolding_all rfl) H ?_)
  go_ret
  exact ⟨rfl, rfl⟩
/-- While a plan is tampered with. -/
structure S43 (w0 w : World) (c t x : Int) (pv dv : Value) (path done : List Int) : Prop where
  bl : Below w0.heap.size w0 w
  b10 : ∃ f, Blk w (w0.heap.size + 1) 5 f
  b11 : Blk w (w0.heap.size + 1 + 1) 5 (plz (.int .u8 c) (.int .i64 (t)) (.int .i64 (x)) pv dv)
  p : Ow w (w0.heap.size + 3) pv path
  d : Ow w (w0.heap.size + 3) dv done
  ne : ∀ g, pv.ownBlock = some g → dv.ownBlock ≠ some g
/-- What tamper leaves. -/
def tamPost (c t x B : Int) (n m : Nat) (w : World) (e : Ending) (w' : World) : Prop :=
  ∃ (t' : Int) (pv dv : Value) (path done : List Int), e = .returned (.agg #[.int .u8 (c), .int .i64 (t'), pv, dv, .int .i64 (x)]) ∧ Below w.heap.size w w' ∧ Ow w' w.heap.size pv path ∧ Ow w' w.heap.size dv done ∧ (t - 1 ≤ t' ∧ t' ≤ t + 1) ∧ path.length ≤ n + 1 ∧ (∀ y, y ∈ path → I64 y) ∧ done.length ≤ m ∧ (∀ y, y ∈ done → -B - 2 ≤ y ∧ y ≤ B + 2)
--BEGIN 4
set_option maxHeartbeats 4000000 in
theorem tam4 (c t x B : Int) (pv dv : Value) (path done : List Int) (cells wh wt : Nat) (lab : Nat → Nat) (w : World) (hp : Ints w lab pv path) (hd : Ints w lab dv done) (hpl : 1 ≤ path.length ∧ path.length ≤ 1000) (hdl : done.length ≤ 1000) (ht : -4000000000 ≤ t ∧ t ≤ 4000000000) (hB : 0 ≤ B ∧ B ≤ 4000000000) (hdb : ∀ y, y ∈ done → -B ≤ y ∧ y ≤ B) (hce : cells ≤ 1000) (hwh : wh ≤ 4611686018427387904) (hwt : wt ≤ 4611686018427387904) :
    Calls Try.prog 43 #[.agg #[.int .u8 (c), .int .i64 (t), pv, dv, .int .i64 (x)], .int .i64 (cells), .int .i64 (4), .int .i64 (wh), .int .i64 (wt)] w (tamPost c t x B path.length done.length w) := by
  obtain ⟨po, pc, hpv, -⟩ := hp.ex
  obtain ⟨dq, dc, hdv, -⟩ := hd.ex
  have hpi := hp.i64
  have HP := hid hp
  have HD := hid hd
  have HDB := hid hdb
  have HPI := hid hpi
  have AB2 : Hid (∀ w' : World, Calls Try.prog 73 #[.int .i64 (4)] w' fun e w'' => e = .returned (.int .i64 (4)) ∧ w'' = w') := fun w' => abs_any 4 w' (by omega)
  have r6 : (4 : Int).tmod 6 = 4 := by decide
  obtain ⟨pn, hpn⟩ : ∃ y, path.length = y := ⟨_, rfl⟩
  obtain ⟨dn, hdn⟩ : ∃ y, done.length = y := ⟨_, rfl⟩
  rw [hpn] at hpl
  rw [hdn] at hdl
  have HPN := hid hpn
  have HDN := hid hdn
  rw [hpn] at hpv
  rw [hdn] at hdv
  subst hpv hdv
  rw [hpn, hdn]
  clear hp hd hpn hdn hdb hpi
  go_enter Try.func43, Try.ntmps43
  go_wp2_with (first | (at_builtin; refine hold ?_))
  unfold Hid
  refine wpl_nm fun w1 hw1 => ?_
  have b1 : Below w.heap.size w w1 := by rw [hw1]; (repeat (first | with_reducible exact Below.rf _ | with_reducible exact World.below_ext _ _ | with_reducible refine Below.ex ?_ _ | with_reducible refine Below.al ?_ _ | with_reducible refine Below.setCell ?_ (by simp) _ | with_reducible refine Below.drew ?_))
  have hs1 : w1.heap.size = w.heap.size + 3 := by rw [hw1]; simp
  have A10 : Blk w1 (w.heap.size + 1) 5 (plz (.int .u8 0) (.int .i64 (0)) (.int .i64 (0)) (.slice none 0 0) (.slice none 0 0)) := by
    rw [hw1]
    refine ⟨by (simp <;> omega), fun i hi => ?_, fun i hi => by simp [go_sem, ↓IntWalk.iteOmega]⟩
    rcases (by omega : i = 0 ∨ i = 1 ∨ i = 2 ∨ i = 3 ∨ i = 4) with rfl | rfl | rfl | rfl | rfl <;> simp [go_sem, ↓IntWalk.iteOmega, plz]
  have A11 : Blk w1 (w.heap.size + 1 + 1) 5 (plz (.int .u8 c) (.int .i64 (t)) (.int .i64 (x)) (.slice po pn pc) (.slice dq dn dc)) := by
    rw [hw1]
    refine ⟨by (simp <;> omega), fun i hi => ?_, fun i hi => by simp [go_sem, ↓IntWalk.iteOmega]⟩
    rcases (by omega : i = 0 ∨ i = 1 ∨ i = 2 ∨ i = 3 ∨ i = 4) with rfl | rfl | rfl | rfl | rfl <;> simp [go_sem, ↓IntWalk.iteOmega, plz]
  have A5 : Blk w1 w.heap.size 5 (plz (.int .u8 c) (.int .i64 (t)) (.int .i64 (x)) (.slice po pn pc) (.slice dq dn dc)) := by
    rw [hw1]
    refine ⟨by (simp <;> omega), fun i hi => ?_, fun i hi => by simp [go_sem, ↓IntWalk.iteOmega]⟩
    rcases (by omega : i = 0 ∨ i = 1 ∨ i = 2 ∨ i = 3 ∨ i = 4) with rfl | rfl | rfl | rfl | rfl <;> simp [go_sem, ↓IntWalk.iteOmega, plz]
  clear hw1
  refine wpl_cpy rfl _ _ rfl lab (.slice po pn pc) path rfl rfl (HP.out.keptL (A := fun _ => False) (KeptL.of_below b1) (fun _ h => h.elim)) (by rw [HPN.out]; omega) ?_
  intro pv1 w2 hO1 hB1
  obtain ⟨po1, pc1, hpv1⟩ := hO1.val HPN.out
  subst hpv1
  rw [hs1] at hO1 hB1
  have B5 := A5.of_block (w' := w2) (by have := hB1.size; omega) (hB1.block _ (by omega))
  have B10 := A10.of_block (w' := w2) (by have := hB1.size; omega) (hB1.block _ (by omega))
  have B11 := A11.of_block (w' := w2) (by have := hB1.size; omega) (hB1.block _ (by omega))
  have b2 : Below w.heap.size w w2 := b1.trans (hB1.mono (by omega))
  have k11_2 : w2.cell? ⟨w.heap.size + 1 + 1, 2, none⟩ = some (.slice po pn pc) := B11.is 2 (by omega)
  have z11 : w2.frozen? ⟨w.heap.size + 1 + 1, 2, none⟩ = false := B11.fz 2 (by omega)
  have hl11 := B11.lt
  have k5_3 : w2.cell? ⟨w.heap.size, 3, none⟩ = some (.slice dq dn dc) := B5.is 3 (by omega)
  have hl5 := B5.lt
  have KK := hid (And.intro B10 (And.intro B11 (And.intro b2 hO1)))
  clear A5 A10 A11 B5 B10 B11 b1 hs1 hB1 b2 hO1
  go_wp2_with (first | (at_builtin; refine hold ?_))
  unfold Hid
  refine wpl_nm fun w3 hw3 => ?_
  obtain ⟨B10, B11, b2, hO1⟩ := KK.out
  clear KK
  have C10 : Blk w3 (w.heap.size + 1) 5 (plz (.int .u8 0) (.int .i64 (0)) (.int .i64 (0)) (.slice none 0 0) (.slice none 0 0)) := by
    rw [hw3]
    exact B10.of_block (by simp) (Below.heap_setCell _ _ _ _ (by simp <;> omega))
  have C11 : Blk w3 (w.heap.size + 1 + 1) 5 (plz (.int .u8 c) (.int .i64 (t)) (.int .i64 (x)) (.slice po1 pn pc1) (.slice dq dn dc)) := by
    rw [hw3]
    refine (B11.set 2 (.slice po1 pn pc1) (by omega)).congr (fun i hi => ?_)
    rcases (by omega : i = 0 ∨ i = 1 ∨ i = 2 ∨ i = 3 ∨ i = 4) with rfl | rfl | rfl | rfl | rfl <;> rfl
  have b3 : Below w.heap.size w w3 := by
    rw [hw3]
    exact Below.setCell b2 (by simp only []; omega) _
  have O1 : Ow w3 (w.heap.size + 3) (.slice po1 pn pc1) path := by
    rw [hw3]
    exact hO1.set (by omega)
  have hs3 : w.heap.size + 3 ≤ w3.heap.size := by
    have := C11.lt
    omega
  clear hw3 B10 B11 b2 hO1 k11_2 z11 hl11 k5_3 hl5
  refine wpl_cpy rfl _ _ rfl lab (.slice dq dn dc) done rfl rfl (HD.out.keptL (A := fun _ => False) (KeptL.of_below b3) (fun _ h => h.elim)) (by rw [HDN.out]; omega) ?_
  intro dv1 w4 hO2 hB2
  obtain ⟨dq1, dc1, hdv1⟩ := hO2.val HDN.out
  subst hdv1
  have D10 := C10.below hB2
  have D11 := C11.below hB2
  have b4 : Below w.heap.size w w4 := b3.trans (hB2.mono b3.size)
  have O2 := O1.below hB2
  have hne : ∀ g, (Value.slice po1 pn pc1).ownBlock = some g → (Value.slice dq1 dn dc1).ownBlock ≠ some g := fun g h1 h2 => by
    have h3 := (O1.lt h1).2
    have h4 := (hO2.lt h2).1
    omega
  have hO2 := hO2.low hs3
  have k11_3 : w4.cell? ⟨w.heap.size + 1 + 1, 3, none⟩ = some (.slice dq dn dc) := D11.is 3 (by omega)
  have z11 : w4.frozen? ⟨w.heap.size + 1 + 1, 3, none⟩ = false := D11.fz 3 (by omega)
  have hl11 := D11.lt
  have KK := hid (And.intro D10 (And.intro D11 (And.intro b4 (And.intro O2 hO2))))
  clear C10 C11 b3 O1 hs3 hB2 D10 D11 b4 O2 hO2
  go_wp2_with (first | (go_at_call 73; refine hold ?_))
  unfold Hid
  refine calls_nm fun w5 hw5 => ?_
  have HS : Hid (S43 w w5 c t x (.slice po1 pn pc1) (.slice dq1 dn dc1) path done) := by
    obtain ⟨D10, D11, b4, O2, hO2⟩ := KK.out
    unfold Hid
    rw [hw5]
    refine ⟨Below.setCell b4 (by simp only []; omega) _, ⟨_, D10.of_block (by simp) (Below.heap_setCell _ _ _ _ (by simp <;> omega))⟩, (D11.set 3 (.slice dq1 dn dc1) (by omega)).congr (fun i hi => ?_), O2.set (by omega), hO2.set (by omega), hne⟩
    rcases (by omega : i = 0 ∨ i = 1 ∨ i = 2 ∨ i = 3 ∨ i = 4) with rfl | rfl | rfl | rfl | rfl <;> rfl
  clear hw5 KK k11_3 z11 hl11 hne
  have AB : Hid (∀ (y : Nat) (w' : World), y ≤ 4611686018427387904 → Calls Try.prog 73 #[.int .i64 (y)] w' fun e w'' => e = .returned (.int .i64 (y)) ∧ w'' = w') := fun y w' hy => abs_any y w' hy
  refine (AB.out _ _ (by omega)).mono ?_
  rintro e w6 ⟨rfl, hw6⟩
  obtain rfl := hw6.symm
  obtain ⟨f10, hf10⟩ := HS.out.b10
  have e10_0 := hf10.is 0 (by omega)
  have e10_1 := hf10.is 1 (by omega)
  have e10_2 := hf10.is 2 (by omega)
  have e10_3 := hf10.is 3 (by omega)
  have e10_4 := hf10.is 4 (by omega)
  have y10_0 := hf10.fz 0 (by omega)
  have y10_1 := hf10.fz 1 (by omega)
  have y10_2 := hf10.fz 2 (by omega)
  have y10_3 := hf10.fz 3 (by omega)
  have y10_4 := hf10.fz 4 (by omega)
  have hl10 := hf10.lt
  have e11_0 := HS.out.b11.is 0 (by omega)
  have e11_1 := HS.out.b11.is 1 (by omega)
  have e11_2 := HS.out.b11.is 2 (by omega)
  have e11_3 := HS.out.b11.is 3 (by omega)
  have e11_4 := HS.out.b11.is 4 (by omega)
  have y11_1 := HS.out.b11.fz 1 (by omega)
  have y11_2 := HS.out.b11.fz 2 (by omega)
  have y11_3 := HS.out.b11.fz 3 (by omega)
  have hl11 := HS.out.b11.lt
  simp only [plz] at e11_0 e11_1 e11_2 e11_3 e11_4
  clear hf10
  obtain ⟨m3, hm3, hm4⟩ : ∃ y : Int, ((wt : Int).tmod 3) = y ∧ 0 ≤ y ∧ y < 3 := ⟨_, rfl, by rw [Int.tmod_eq_emod_of_nonneg (by omega)]; omega⟩
  have hm5 := hm4.2
  have hm6 := hm4.1
  clear hm4
  have HX : Hid ((t - 1 ≤ t + (m3 - 1) ∧ t + (m3 - 1) ≤ t + 1) ∧ path.length ≤ pn + 1 ∧ (∀ y, y ∈ path → I64 y) ∧ done.length ≤ dn ∧ (∀ y, y ∈ done → -B - 2 ≤ y ∧ y ≤ B + 2)) := ⟨by omega, by rw [HPN.out]; omega, HPI.out, by rw [HDN.out]; omega, fun y hy => by have := HDB.out y hy; omega⟩
  have HOP : Hid (Ow (w5.setCell ⟨w.heap.size + 1 + 1, 1, none⟩ (.int .i64 (t + (m3 - 1)))) (w.heap.size + 3) (.slice po1 pn pc1) path) := HS.out.p.set (by omega)
  have HOD : Hid (Ow (w5.setCell ⟨w.heap.size + 1 + 1, 1, none⟩ (.int .i64 (t + (m3 - 1)))) (w.heap.size + 3) (.slice dq1 dn dc1) done) := HS.out.d.set (by omega)
  go_wp2_with (first | (go_at_call 73; with_reducible refine (AB2.out _).mono ?_; rintro e w6 ⟨rfl, hw6⟩; obtain rfl := hw6.symm) | (go_at_call 73; refine (AB.out _ _ (by omega)).mono ?_; rintro e w6 ⟨rfl, hw6⟩; obtain rfl := hw6.symm))
  refine bodyPost_ret (v := .agg #[.int .u8 (c), .int .i64 (t + (m3 - 1)), .slice po1 pn pc1, .slice dq1 dn dc1, .int .i64 (x)]) (by simp [results, Try.results43, go_sem, ↓IntWalk.iteOmega, *]) rfl ?_
  refine ⟨t + (m3 - 1), .slice po1 pn pc1, .slice dq1 dn dc1, path, done, rfl, ?_, ?_, ?_, HX.out⟩
  · skip
    iterate 5 refine Below.setCell ?_ (by simp only []; omega) _
    exact Below.setCell HS.out.bl (by simp only []; omega) _
  · refine Ow.low (base := w.heap.size + 3) ?_ (by omega)
    skip
    iterate 5 refine Ow.set ?_ (by omega)
    exact HOP.out
  · refine Ow.low (base := w.heap.size + 3) ?_ (by omega)
    skip
    iterate 5 refine Ow.set ?_ (by omega)
    exact HOD.out
--END 4
--BEGIN 1
set_option maxHeartbeats 4000000 in
theorem tam1 (c t x B : Int) (pv dv : Value) (path done : List Int) (cells wh wt : Nat) (lab : Nat → Nat) (w : World) (hp : Ints w lab pv path) (hd : Ints w lab dv done) (hpl : 1 ≤ path.length ∧ path.length ≤ 1000) (hdl : done.length ≤ 1000) (ht : -4000000000 ≤ t ∧ t ≤ 4000000000) (hB : 0 ≤ B ∧ B ≤ 4000000000) (hdb : ∀ y, y ∈ done → -B ≤ y ∧ y ≤ B) (hce : cells ≤ 1000) (hwh : wh ≤ 4611686018427387904) (hwt : wt ≤ 4611686018427387904) :
    Calls Try.prog 43 #[.agg #[.int .u8 (c), .int .i64 (t), pv, dv, .int .i64 (x)], .int .i64 (cells), .int .i64 (1), .int .i64 (wh), .int .i64 (wt)] w (tamPost c t x B path.length done.length w) := by
  obtain ⟨po, pc, hpv, -⟩ := hp.ex
  obtain ⟨dq, dc, hdv, -⟩ := hd.ex
  have hpi := hp.i64
  have HP := hid hp
  have HD := hid hd
  have HDB := hid hdb
  have HPI := hid hpi
  have AB2 : Hid (∀ w' : World, Calls Try.prog 73 #[.int .i64 (1)] w' fun e w'' => e = .returned (.int .i64 (1)) ∧ w'' = w') := fun w' => abs_any 1 w' (by omega)
  have r6 : (1 : Int).tmod 6 = 1 := by decide
  obtain ⟨pn, hpn⟩ : ∃ y, path.length = y := ⟨_, rfl⟩
  obtain ⟨dn, hdn⟩ : ∃ y, done.length = y := ⟨_, rfl⟩
  rw [hpn] at hpl
  rw [hdn] at hdl
  have HPN := hid hpn
  have HDN := hid hdn
  rw [hpn] at hpv
  rw [hdn] at hdv
  subst hpv hdv
  rw [hpn, hdn]
  clear hp hd hpn hdn hdb hpi
  go_enter Try.func43, Try.ntmps43
  go_wp2_with (first | (at_builtin; refine hold ?_))
  unfold Hid
  refine wpl_nm fun w1 hw1 => ?_
  have b1 : Below w.heap.size w w1 := by rw [hw1]; (repeat (first | with_reducible exact Below.rf _ | with_reducible exact World.below_ext _ _ | with_reducible refine Below.ex ?_ _ | with_reducible refine Below.al ?_ _ | with_reducible refine Below.setCell ?_ (by simp) _ | with_reducible refine Below.drew ?_))
  have hs1 : w1.heap.size = w.heap.size + 3 := by rw [hw1]; simp
  have A10 : Blk w1 (w.heap.size + 1) 5 (plz (.int .u8 0) (.int .i64 (0)) (.int .i64 (0)) (.slice none 0 0) (.slice none 0 0)) := by
    rw [hw1]
    refine ⟨by (simp <;> omega), fun i hi => ?_, fun i hi => by simp [go_sem, ↓IntWalk.iteOmega]⟩
    rcases (by omega : i = 0 ∨ i = 1 ∨ i = 2 ∨ i = 3 ∨ i = 4) with rfl | rfl | rfl | rfl | rfl <;> simp [go_sem, ↓IntWalk.iteOmega, plz]
  have A11 : Blk w1 (w.heap.size + 1 + 1) 5 (plz (.int .u8 c) (.int .i64 (t)) (.int .i64 (x)) (.slice po pn pc) (.slice dq dn dc)) := by
    rw [hw1]
    refine ⟨by (simp <;> omega), fun i hi => ?_, fun i hi => by simp [go_sem, ↓IntWalk.iteOmega]⟩
    rcases (by omega : i = 0 ∨ i = 1 ∨ i = 2 ∨ i = 3 ∨ i = 4) with rfl | rfl | rfl | rfl | rfl <;> simp [go_sem, ↓IntWalk.iteOmega, plz]
  have A5 : Blk w1 w.heap.size 5 (plz (.int .u8 c) (.int .i64 (t)) (.int .i64 (x)) (.slice po pn pc) (.slice dq dn dc)) := by
    rw [hw1]
    refine ⟨by (simp <;> omega), fun i hi => ?_, fun i hi => by simp [go_sem, ↓IntWalk.iteOmega]⟩
    rcases (by omega : i = 0 ∨ i = 1 ∨ i = 2 ∨ i = 3 ∨ i = 4) with rfl | rfl | rfl | rfl | rfl <;> simp [go_sem, ↓IntWalk.iteOmega, plz]
  clear hw1
  refine wpl_cpy rfl _ _ rfl lab (.slice po pn pc) path rfl rfl (HP.out.keptL (A := fun _ => False) (KeptL.of_below b1) (fun _ h => h.elim)) (by rw [HPN.out]; omega) ?_
  intro pv1 w2 hO1 hB1
  obtain ⟨po1, pc1, hpv1⟩ := hO1.val HPN.out
  subst hpv1
  rw [hs1] at hO1 hB1
  have B5 := A5.of_block (w' := w2) (by have := hB1.size; omega) (hB1.block _ (by omega))
  have B10 := A10.of_block (w' := w2) (by have := hB1.size; omega) (hB1.block _ (by omega))
  have B11 := A11.of_block (w' := w2) (by have := hB1.size; omega) (hB1.block _ (by omega))
  have b2 : Below w.heap.size w w2 := b1.trans (hB1.mono (by omega))
  have k11_2 : w2.cell? ⟨w.heap.size + 1 + 1, 2, none⟩ = some (.slice po pn pc) := B11.is 2 (by omega)
  have z11 : w2.frozen? ⟨w.heap.size + 1 + 1, 2, none⟩ = false := B11.fz 2 (by omega)
  have hl11 := B11.lt
  have k5_3 : w2.cell? ⟨w.heap.size, 3, none⟩ = some (.slice dq dn dc) := B5.is 3 (by omega)
  have hl5 := B5.lt
  have KK := hid (And.intro B10 (And.intro B11 (And.intro b2 hO1)))
  clear A5 A10 A11 B5 B10 B11 b1 hs1 hB1 b2 hO1
  go_wp2_with (first | (at_builtin; refine hold ?_))
  unfold Hid
  refine wpl_nm fun w3 hw3 => ?_
  obtain ⟨B10, B11, b2, hO1⟩ := KK.out
  clear KK
  have C10 : Blk w3 (w.heap.size + 1) 5 (plz (.int .u8 0) (.int .i64 (0)) (.int .i64 (0)) (.slice none 0 0) (.slice none 0 0)) := by
    rw [hw3]
    exact B10.of_block (by simp) (Below.heap_setCell _ _ _ _ (by simp <;> omega))
  have C11 : Blk w3 (w.heap.size + 1 + 1) 5 (plz (.int .u8 c) (.int .i64 (t)) (.int .i64 (x)) (.slice po1 pn pc1) (.slice dq dn dc)) := by
    rw [hw3]
    refine (B11.set 2 (.slice po1 pn pc1) (by omega)).congr (fun i hi => ?_)
    rcases (by omega : i = 0 ∨ i = 1 ∨ i = 2 ∨ i = 3 ∨ i = 4) with rfl | rfl | rfl | rfl | rfl <;> rfl
  have b3 : Below w.heap.size w w3 := by
    rw [hw3]
    exact Below.setCell b2 (by simp only []; omega) _
  have O1 : Ow w3 (w.heap.size + 3) (.slice po1 pn pc1) path := by
    rw [hw3]
    exact hO1.set (by omega)
  have hs3 : w.heap.size + 3 ≤ w3.heap.size := by
    have := C11.lt
    omega
  clear hw3 B10 B11 b2 hO1 k11_2 z11 hl11 k5_3 hl5
  refine wpl_cpy rfl _ _ rfl lab (.slice dq dn dc) done rfl rfl (HD.out.keptL (A := fun _ => False) (KeptL.of_below b3) (fun _ h => h.elim)) (by rw [HDN.out]; omega) ?_
  intro dv1 w4 hO2 hB2
  obtain ⟨dq1, dc1, hdv1⟩ := hO2.val HDN.out
  subst hdv1
  have D10 := C10.below hB2
  have D11 := C11.below hB2
  have b4 : Below w.heap.size w w4 := b3.trans (hB2.mono b3.size)
  have O2 := O1.below hB2
  have hne : ∀ g, (Value.slice po1 pn pc1).ownBlock = some g → (Value.slice dq1 dn dc1).ownBlock ≠ some g := fun g h1 h2 => by
    have h3 := (O1.lt h1).2
    have h4 := (hO2.lt h2).1
    omega
  have hO2 := hO2.low hs3
  have k11_3 : w4.cell? ⟨w.heap.size + 1 + 1, 3, none⟩ = some (.slice dq dn dc) := D11.is 3 (by omega)
  have z11 : w4.frozen? ⟨w.heap.size + 1 + 1, 3, none⟩ = false := D11.fz 3 (by omega)
  have hl11 := D11.lt
  have KK := hid (And.intro D10 (And.intro D11 (And.intro b4 (And.intro O2 hO2))))
  clear C10 C11 b3 O1 hs3 hB2 D10 D11 b4 O2 hO2
  go_wp2_with (first | (go_at_call 73; refine hold ?_))
  unfold Hid
  refine calls_nm fun w5 hw5 => ?_
  have HS : Hid (S43 w w5 c t x (.slice po1 pn pc1) (.slice dq1 dn dc1) path done) := by
    obtain ⟨D10, D11, b4, O2, hO2⟩ := KK.out
    unfold Hid
    rw [hw5]
    refine ⟨Below.setCell b4 (by simp only []; omega) _, ⟨_, D10.of_block (by simp) (Below.heap_setCell _ _ _ _ (by simp <;> omega))⟩, (D11.set 3 (.slice dq1 dn dc1) (by omega)).congr (fun i hi => ?_), O2.set (by omega), hO2.set (by omega), hne⟩
    rcases (by omega : i = 0 ∨ i = 1 ∨ i = 2 ∨ i = 3 ∨ i = 4) with rfl | rfl | rfl | rfl | rfl <;> rfl
  clear hw5 KK k11_3 z11 hl11 hne
  have AB : Hid (∀ (y : Nat) (w' : World), y ≤ 4611686018427387904 → Calls Try.prog 73 #[.int .i64 (y)] w' fun e w'' => e = .returned (.int .i64 (y)) ∧ w'' = w') := fun y w' hy => abs_any y w' hy
  refine (AB.out _ _ (by omega)).mono ?_
  rintro e w6 ⟨rfl, hw6⟩
  obtain rfl := hw6.symm
  obtain ⟨g, pc2, hgv, hgc, hgb, hgl, hgi, hgf⟩ := HS.out.p.see (by rw [HPN.out]; omega)
  rw [HPN.out] at hgv hgc hgi
  simp only [Value.slice.injEq, true_and] at hgv
  obtain ⟨rfl, rfl⟩ := hgv
  obtain ⟨f10, hf10⟩ := HS.out.b10
  have e10_0 := hf10.is 0 (by omega)
  have e10_1 := hf10.is 1 (by omega)
  have e10_2 := hf10.is 2 (by omega)
  have e10_3 := hf10.is 3 (by omega)
  have e10_4 := hf10.is 4 (by omega)
  have y10_0 := hf10.fz 0 (by omega)
  have y10_1 := hf10.fz 1 (by omega)
  have y10_2 := hf10.fz 2 (by omega)
  have y10_3 := hf10.fz 3 (by omega)
  have y10_4 := hf10.fz 4 (by omega)
  have hl10 := hf10.lt
  have e11_0 := HS.out.b11.is 0 (by omega)
  have e11_1 := HS.out.b11.is 1 (by omega)
  have e11_2 := HS.out.b11.is 2 (by omega)
  have e11_3 := HS.out.b11.is 3 (by omega)
  have e11_4 := HS.out.b11.is 4 (by omega)
  have y11_1 := HS.out.b11.fz 1 (by omega)
  have y11_2 := HS.out.b11.fz 2 (by omega)
  have y11_3 := HS.out.b11.fz 3 (by omega)
  have hl11 := HS.out.b11.lt
  simp only [plz] at e11_0 e11_1 e11_2 e11_3 e11_4
  clear hf10
  obtain ⟨ix, hix, hixl⟩ : ∃ y : Nat, (wh : Int).tmod (pn : Int) = y ∧ y < pn := ⟨wh % pn, by rw [Int.tmod_eq_emod_of_nonneg (by omega)]; simp, Nat.mod_lt _ (by omega)⟩
  have dp0 : ((pn : Int) == 0) = false := by simp; omega
  have hsl := fun w => slice_h1 g 0 ix pn pc1 (by omega) (by omega) w
  have HX : Hid ((t - 1 ≤ t ∧ t ≤ t + 1) ∧ (path.take ix).length ≤ pn + 1 ∧ (∀ y, y ∈ path.take ix → I64 y) ∧ done.length ≤ dn ∧ (∀ y, y ∈ done → -B - 2 ≤ y ∧ y ≤ B + 2)) := ⟨by omega, by simp; omega, fun y hy => HPI.out y (List.mem_of_mem_take hy), by rw [HDN.out]; omega, fun y hy => by have := HDB.out y hy; omega⟩
  have HOP : Hid (Ow w5 (w.heap.size + 3) (.slice (some ⟨g, 0, none⟩) ix pc1) (path.take ix)) := HS.out.p.take rfl (by rw [HPN.out]; omega)
  clear hgi hgf
  go_wp2_with (first | (go_at_call 73; with_reducible refine (AB2.out _).mono ?_; rintro e w6 ⟨rfl, hw6⟩; obtain rfl := hw6.symm) | (go_at_call 73; refine (AB.out _ _ (by omega)).mono ?_; rintro e w6 ⟨rfl, hw6⟩; obtain rfl := hw6.symm))
  first | with_reducible refine wp_region_tail_ext2 8 (by kernel_rfl) (by kernel_rfl) ?_ | refine wp_region_tail_ext 8 (by kernel_rfl) (by kernel_rfl) ?_
  simp only [List.take_succ_cons, List.take_zero, List.drop_succ_cons, List.drop_zero]
  repeat (go_big_quiet_step (fail))
  refine wpQuiet_nil ?_
  rintro _ ⟨z, rfl⟩
  go_wp2
  refine bodyPost_ret (v := .agg #[.int .u8 (c), .int .i64 (t), .slice (some ⟨g, 0, none⟩) ix pc1, .slice dq1 dn dc1, .int .i64 (x)]) (by simp [results, Try.results43, go_sem, ↓IntWalk.iteOmega, *]) rfl ?_
  refine ⟨t, .slice (some ⟨g, 0, none⟩) ix pc1, .slice dq1 dn dc1, path.take ix, done, rfl, ?_, ?_, ?_, HX.out⟩
  · refine Below.ex ?_ _
    iterate 5 refine Below.setCell ?_ (by simp only []; omega) _
    exact Below.setCell HS.out.bl (by simp only []; omega) _
  · refine Ow.low (base := w.heap.size + 3) ?_ (by omega)
    refine Ow.below ?_ (World.below_ext _ _)
    iterate 5 refine Ow.set ?_ (by omega)
    exact HOP.out.set (by omega)
  · refine Ow.low (base := w.heap.size + 3) ?_ (by omega)
    refine Ow.below ?_ (World.below_ext _ _)
    iterate 5 refine Ow.set ?_ (by omega)
    exact HS.out.d.set (by omega)
--END 1
--BEGIN 0
set_option maxHeartbeats 4000000 in
theorem tam0 (c t x B : Int) (pv dv : Value) (path done : List Int) (cells wh wt : Nat) (lab : Nat → Nat) (w : World) (hp : Ints w lab pv path) (hd : Ints w lab dv done) (hpl : 1 ≤ path.length ∧ path.length ≤ 1000) (hdl : done.length ≤ 1000) (ht : -4000000000 ≤ t ∧ t ≤ 4000000000) (hB : 0 ≤ B ∧ B ≤ 4000000000) (hdb : ∀ y, y ∈ done → -B ≤ y ∧ y ≤ B) (hce : cells ≤ 1000) (hwh : wh ≤ 4611686018427387904) (hwt : wt ≤ 4611686018427387904) :
    Calls Try.prog 43 #[.agg #[.int .u8 (c), .int .i64 (t), pv, dv, .int .i64 (x)], .int .i64 (cells), .int .i64 (0), .int .i64 (wh), .int .i64 (wt)] w (tamPost c t x B path.length done.length w) := by
  obtain ⟨po, pc, hpv, -⟩ := hp.ex
  obtain ⟨dq, dc, hdv, -⟩ := hd.ex
  have hpi := hp.i64
  have HP := hid hp
  have HD := hid hd
  have HDB := hid hdb
  have HPI := hid hpi
  have AB2 : Hid (∀ w' : World, Calls Try.prog 73 #[.int .i64 (0)] w' fun e w'' => e = .returned (.int .i64 (0)) ∧ w'' = w') := fun w' => abs_any 0 w' (by omega)
  have r6 : (0 : Int).tmod 6 = 0 := by decide
  obtain ⟨pn, hpn⟩ : ∃ y, path.length = y := ⟨_, rfl⟩
  obtain ⟨dn, hdn⟩ : ∃ y, done.length = y := ⟨_, rfl⟩
  rw [hpn] at hpl
  rw [hdn] at hdl
  have HPN := hid hpn
  have HDN := hid hdn
  rw [hpn] at hpv
  rw [hdn] at hdv
  subst hpv hdv
  rw [hpn, hdn]
  clear hp hd hpn hdn hdb hpi
  go_enter Try.func43, Try.ntmps43
  go_wp2_with (first | (at_builtin; refine hold ?_))
  unfold Hid
  refine wpl_nm fun w1 hw1 => ?_
  have b1 : Below w.heap.size w w1 := by rw [hw1]; (repeat (first | with_reducible exact Below.rf _ | with_reducible exact World.below_ext _ _ | with_reducible refine Below.ex ?_ _ | with_reducible refine Below.al ?_ _ | with_reducible refine Below.setCell ?_ (by simp) _ | with_reducible refine Below.drew ?_))
  have hs1 : w1.heap.size = w.heap.size + 3 := by rw [hw1]; simp
  have A10 : Blk w1 (w.heap.size + 1) 5 (plz (.int .u8 0) (.int .i64 (0)) (.int .i64 (0)) (.slice none 0 0) (.slice none 0 0)) := by
    rw [hw1]
    refine ⟨by (simp <;> omega), fun i hi => ?_, fun i hi => by simp [go_sem, ↓IntWalk.iteOmega]⟩
    rcases (by omega : i = 0 ∨ i = 1 ∨ i = 2 ∨ i = 3 ∨ i = 4) with rfl | rfl | rfl | rfl | rfl <;> simp [go_sem, ↓IntWalk.iteOmega, plz]
  have A11 : Blk w1 (w.heap.size + 1 + 1) 5 (plz (.int .u8 c) (.int .i64 (t)) (.int .i64 (x)) (.slice po pn pc) (.slice dq dn dc)) := by
    rw [hw1]
    refine ⟨by (simp <;> omega), fun i hi => ?_, fun i hi => by simp [go_sem, ↓IntWalk.iteOmega]⟩
    rcases (by omega : i = 0 ∨ i = 1 ∨ i = 2 ∨ i = 3 ∨ i = 4) with rfl | rfl | rfl | rfl | rfl <;> simp [go_sem, ↓IntWalk.iteOmega, plz]
  have A5 : Blk w1 w.heap.size 5 (plz (.int .u8 c) (.int .i64 (t)) (.int .i64 (x)) (.slice po pn pc) (.slice dq dn dc)) := by
    rw [hw1]
    refine ⟨by (simp <;> omega), fun i hi => ?_, fun i hi => by simp [go_sem, ↓IntWalk.iteOmega]⟩
    rcases (by omega : i = 0 ∨ i = 1 ∨ i = 2 ∨ i = 3 ∨ i = 4) with rfl | rfl | rfl | rfl | rfl <;> simp [go_sem, ↓IntWalk.iteOmega, plz]
  clear hw1
  refine wpl_cpy rfl _ _ rfl lab (.slice po pn pc) path rfl rfl (HP.out.keptL (A := fun _ => False) (KeptL.of_below b1) (fun _ h => h.elim)) (by rw [HPN.out]; omega) ?_
  intro pv1 w2 hO1 hB1
  obtain ⟨po1, pc1, hpv1⟩ := hO1.val HPN.out
  subst hpv1
  rw [hs1] at hO1 hB1
  have B5 := A5.of_block (w' := w2) (by have := hB1.size; omega) (hB1.block _ (by omega))
  have B10 := A10.of_block (w' := w2) (by have := hB1.size; omega) (hB1.block _ (by omega))
  have B11 := A11.of_block (w' := w2) (by have := hB1.size; omega) (hB1.block _ (by omega))
  have b2 : Below w.heap.size w w2 := b1.trans (hB1.mono (by omega))
  have k11_2 : w2.cell? ⟨w.heap.size + 1 + 1, 2, none⟩ = some (.slice po pn pc) := B11.is 2 (by omega)
  have z11 : w2.frozen? ⟨w.heap.size + 1 + 1, 2, none⟩ = false := B11.fz 2 (by omega)
  have hl11 := B11.lt
  have k5_3 : w2.cell? ⟨w.heap.size, 3, none⟩ = some (.slice dq dn dc) := B5.is 3 (by omega)
  have hl5 := B5.lt
  have KK := hid (And.intro B10 (And.intro B11 (And.intro b2 hO1)))
  clear A5 A10 A11 B5 B10 B11 b1 hs1 hB1 b2 hO1
  go_wp2_with (first | (at_builtin; refine hold ?_))
  unfold Hid
  refine wpl_nm fun w3 hw3 => ?_
  obtain ⟨B10, B11, b2, hO1⟩ := KK.out
  clear KK
  have C10 : Blk w3 (w.heap.size + 1) 5 (plz (.int .u8 0) (.int .i64 (0)) (.int .i64 (0)) (.slice none 0 0) (.slice none 0 0)) := by
    rw [hw3]
    exact B10.of_block (by simp) (Below.heap_setCell _ _ _ _ (by simp <;> omega))
  have C11 : Blk w3 (w.heap.size + 1 + 1) 5 (plz (.int .u8 c) (.int .i64 (t)) (.int .i64 (x)) (.slice po1 pn pc1) (.slice dq dn dc)) := by
    rw [hw3]
    refine (B11.set 2 (.slice po1 pn pc1) (by omega)).congr (fun i hi => ?_)
    rcases (by omega : i = 0 ∨ i = 1 ∨ i = 2 ∨ i = 3 ∨ i = 4) with rfl | rfl | rfl | rfl | rfl <;> rfl
  have b3 : Below w.heap.size w w3 := by
    rw [hw3]
    exact Below.setCell b2 (by simp only []; omega) _
  have O1 : Ow w3 (w.heap.size + 3) (.slice po1 pn pc1) path := by
    rw [hw3]
    exact hO1.set (by omega)
  have hs3 : w.heap.size + 3 ≤ w3.heap.size := by
    have := C11.lt
    omega
  clear hw3 B10 B11 b2 hO1 k11_2 z11 hl11 k5_3 hl5
  refine wpl_cpy rfl _ _ rfl lab (.slice dq dn dc) done rfl rfl (HD.out.keptL (A := fun _ => False) (KeptL.of_below b3) (fun _ h => h.elim)) (by rw [HDN.out]; omega) ?_
  intro dv1 w4 hO2 hB2
  obtain ⟨dq1, dc1, hdv1⟩ := hO2.val HDN.out
  subst hdv1
  have D10 := C10.below hB2
  have D11 := C11.below hB2
  have b4 : Below w.heap.size w w4 := b3.trans (hB2.mono b3.size)
  have O2 := O1.below hB2
  have hne : ∀ g, (Value.slice po1 pn pc1).ownBlock = some g → (Value.slice dq1 dn dc1).ownBlock ≠ some g := fun g h1 h2 => by
    have h3 := (O1.lt h1).2
    have h4 := (hO2.lt h2).1
    omega
  have hO2 := hO2.low hs3
  have k11_3 : w4.cell? ⟨w.heap.size + 1 + 1, 3, none⟩ = some (.slice dq dn dc) := D11.is 3 (by omega)
  have z11 : w4.frozen? ⟨w.heap.size + 1 + 1, 3, none⟩ = false := D11.fz 3 (by omega)
  have hl11 := D11.lt
  have KK := hid (And.intro D10 (And.intro D11 (And.intro b4 (And.intro O2 hO2))))
  clear C10 C11 b3 O1 hs3 hB2 D10 D11 b4 O2 hO2
  go_wp2_with (first | (go_at_call 73; refine hold ?_))
  unfold Hid
  refine calls_nm fun w5 hw5 => ?_
  have HS : Hid (S43 w w5 c t x (.slice po1 pn pc1) (.slice dq1 dn dc1) path done) := by
    obtain ⟨D10, D11, b4, O2, hO2⟩ := KK.out
    unfold Hid
    rw [hw5]
    refine ⟨Below.setCell b4 (by simp only []; omega) _, ⟨_, D10.of_block (by simp) (Below.heap_setCell _ _ _ _ (by simp <;> omega))⟩, (D11.set 3 (.slice dq1 dn dc1) (by omega)).congr (fun i hi => ?_), O2.set (by omega), hO2.set (by omega), hne⟩
    rcases (by omega : i = 0 ∨ i = 1 ∨ i = 2 ∨ i = 3 ∨ i = 4) with rfl | rfl | rfl | rfl | rfl <;> rfl
  clear hw5 KK k11_3 z11 hl11 hne
  have AB : Hid (∀ (y : Nat) (w' : World), y ≤ 4611686018427387904 → Calls Try.prog 73 #[.int .i64 (y)] w' fun e w'' => e = .returned (.int .i64 (y)) ∧ w'' = w') := fun y w' hy => abs_any y w' hy
  refine (AB.out _ _ (by omega)).mono ?_
  rintro e w6 ⟨rfl, hw6⟩
  obtain rfl := hw6.symm
  obtain ⟨g, pc2, hgv, hgc, hgb, hgl, hgi, hgf⟩ := HS.out.p.see (by rw [HPN.out]; omega)
  rw [HPN.out] at hgv hgc hgi
  simp only [Value.slice.injEq, true_and] at hgv
  obtain ⟨rfl, rfl⟩ := hgv
  obtain ⟨f10, hf10⟩ := HS.out.b10
  have e10_0 := hf10.is 0 (by omega)
  have e10_1 := hf10.is 1 (by omega)
  have e10_2 := hf10.is 2 (by omega)
  have e10_3 := hf10.is 3 (by omega)
  have e10_4 := hf10.is 4 (by omega)
  have y10_0 := hf10.fz 0 (by omega)
  have y10_1 := hf10.fz 1 (by omega)
  have y10_2 := hf10.fz 2 (by omega)
  have y10_3 := hf10.fz 3 (by omega)
  have y10_4 := hf10.fz 4 (by omega)
  have hl10 := hf10.lt
  have e11_0 := HS.out.b11.is 0 (by omega)
  have e11_1 := HS.out.b11.is 1 (by omega)
  have e11_2 := HS.out.b11.is 2 (by omega)
  have e11_3 := HS.out.b11.is 3 (by omega)
  have e11_4 := HS.out.b11.is 4 (by omega)
  have y11_1 := HS.out.b11.fz 1 (by omega)
  have y11_2 := HS.out.b11.fz 2 (by omega)
  have y11_3 := HS.out.b11.fz 3 (by omega)
  have hl11 := HS.out.b11.lt
  simp only [plz] at e11_0 e11_1 e11_2 e11_3 e11_4
  clear hf10
  obtain ⟨ix, hix, hixl⟩ : ∃ y : Nat, (wh : Int).tmod (pn : Int) = y ∧ y < pn := ⟨wh % pn, by rw [Int.tmod_eq_emod_of_nonneg (by omega)]; simp, Nat.mod_lt _ (by omega)⟩
  have dp0 : ((pn : Int) == 0) = false := by simp; omega
  obtain ⟨m2, hm2, hm4⟩ : ∃ y : Int, ((wt : Int).tmod ((cells : Int) + 2)) = y ∧ 0 ≤ y ∧ y < (cells : Int) + 2 := ⟨_, rfl, by rw [Int.tmod_eq_emod_of_nonneg (by omega)]; exact ⟨Int.emod_nonneg _ (by omega), Int.emod_lt_of_pos _ (by omega)⟩⟩
  have hm5 := hm4.2
  have hm6 := hm4.1
  have dc0 : ((cells : Int) + 2 == 0) = false := by simp; omega
  have gi := hgi ix (by omega)
  have gf := hgf ix
  have dix : decide (ix < pn) = true := by simp; omega
  have HX : Hid ((t - 1 ≤ t ∧ t ≤ t + 1) ∧ (path.set ix (m2 - 1)).length ≤ pn + 1 ∧ (∀ y, y ∈ path.set ix (m2 - 1) → I64 y) ∧ done.length ≤ dn ∧ (∀ y, y ∈ done → -B - 2 ≤ y ∧ y ≤ B + 2)) := ⟨by omega, by rw [List.length_set, HPN.out]; omega, fun y hy => by
    rcases List.mem_or_eq_of_mem_set hy with h | h
    · exact HPI.out y h
    · rw [h]; unfold I64; omega, by rw [HDN.out]; omega, fun y hy => by have := HDB.out y hy; omega⟩
  have HNE := hid (HS.out.ne g rfl)
  have HLX : Hid (ix < path.length) := by unfold Hid; rw [HPN.out]; exact hixl
  clear hgi hgf hm4
  go_wp2_with (first | (go_at_call 73; with_reducible refine (AB2.out _).mono ?_; rintro e w6 ⟨rfl, hw6⟩; obtain rfl := hw6.symm) | (go_at_call 73; refine (AB.out _ _ (by omega)).mono ?_; rintro e w6 ⟨rfl, hw6⟩; obtain rfl := hw6.symm))
  first | with_reducible refine wp_region_tail_ext2 12 (by kernel_rfl) (by kernel_rfl) ?_ | refine wp_region_tail_ext 12 (by kernel_rfl) (by kernel_rfl) ?_
  simp only [List.take_succ_cons, List.take_zero, List.drop_succ_cons, List.drop_zero]
  repeat (go_big_quiet_step (fail))
  refine wpQuiet_nil ?_
  rintro _ ⟨z, rfl⟩
  go_wp2
  refine bodyPost_ret (v := .agg #[.int .u8 (c), .int .i64 (t), .slice (some ⟨g, 0, none⟩) pn pc1, .slice dq1 dn dc1, .int .i64 (x)]) (by simp [results, Try.results43, go_sem, ↓IntWalk.iteOmega, *]) rfl ?_
  refine ⟨t, .slice (some ⟨g, 0, none⟩) pn pc1, .slice dq1 dn dc1, path.set ix (m2 - 1), done, rfl, ?_, ?_, ?_, HX.out⟩
  · refine Below.ex ?_ _
    iterate 5 refine Below.setCell ?_ (by simp only []; omega) _
    exact Below.setCell HS.out.bl (by simp only []; omega) _
  · refine Ow.low (base := w.heap.size + 3) ?_ (by omega)
    refine Ow.below ?_ (World.below_ext _ _)
    iterate 5 refine Ow.set ?_ (by omega)
    exact HS.out.p.put rfl HLX.out _
  · refine Ow.low (base := w.heap.size + 3) ?_ (by omega)
    refine Ow.below ?_ (World.below_ext _ _)
    iterate 5 refine Ow.set ?_ (by omega)
    exact HS.out.d.of_block (fun g' hg' => Below.heap_setCell _ _ _ _ (fun e => HNE.out (by rw [hg']; exact congrArg some e)))
--END 0
theorem S43.app {w0 w w1 w' : World} {c t x : Int} {pv dv : Value} {path done : List Int} (h : S43 w0 w c t x pv dv path done) (hb : Below w.heap.size w w1) (hG : w1.grownBy w' pv.ownBlock) : Below w0.heap.size w0 w' ∧ (∃ f, Blk w' (w0.heap.size + 1) 5 f) ∧ Blk w' (w0.heap.size + 1 + 1) 5 (plz (.int .u8 c) (.int .i64 (t)) (.int .i64 (x)) pv dv) ∧ Ow w' (w0.heap.size + 3) dv done := by
  have hbl : Below w0.heap.size w0 w1 := h.bl.trans (hb.mono h.bl.size)
  have hp1 := h.p.below hb
  have hne : ∀ k, k < w0.heap.size + 3 → some k ≠ pv.ownBlock := fun k hk e => by
    have := (h.p.lt e.symm).1
    omega
  obtain ⟨f, hf⟩ := h.b10
  have hf1 := hf.below hb
  have h11 := h.b11.below hb
  refine ⟨⟨hG.os.trans hbl.os, hG.tape.trans hbl.tape, hG.output.trans hbl.output, Nat.le_trans hbl.size hG.size, fun k hk => (hG.block k (Nat.lt_of_lt_of_le hk hbl.size) (hne k (by omega))).trans (hbl.block k hk)⟩, ⟨f, hf1.of_block hG.size (hG.block _ hf1.lt (hne _ (by omega)))⟩, h11.of_block hG.size (hG.block _ h11.lt (hne _ (by omega))), ?_⟩
  have hd1 := h.d.below hb
  refine hd1.of_block (fun g hg => hG.block g (hd1.lt hg).2 (fun e => h.ne g e.symm hg))
theorem step_oap {w : World} {ops : Array Oper} {o : Oper} {a : Act} {K : Act → World → Prop} {Q : Exit → Act → World → Prop} {E : Prop} (hgd : o.guard = none) (s x : Operand)
    (ho : o.op = .call { callee := .builtin .append, args := #[s, x], argTypes := #[32, 32] })
    (base : Nat) (v : Value) (l : List Int) (hs : a.eval s = v) (hO : Ow w base v l) (hb : base ≤ w.heap.size) (ad : Addr) (m c : Nat) (l2 : List Int) (hx : a.eval x = .slice (some ad) m c) (hm : l2.length = m) (hc : ∀ (j : Nat) (y : Int), l2[j]? = some y → w.cell? (ad.add j) = some (.int .i64 (y))) (hl : l.length ≤ 1000000 ∧ m ≤ 1000000)
    (h : ∀ v' w', Ow w' base v' (l ++ l2) → w.grownBy w' v.ownBlock → K (a.put o.dst v') w') : if Region.wanted o (yielded ops a.tmps) = true then Oper.wp Try.prog o a w K Q else E := by
  have hw : Region.wanted o (yielded ops a.tmps) = true := by simp [Region.wanted, hgd]
  rw [if_pos hw]
  exact wp_oap s x ho base v l hs hO hb ad m c l2 hx hm hc hl h
--BEGIN 3
set_option maxHeartbeats 4000000 in
theorem tam3 (c t x B : Int) (pv dv : Value) (path done : List Int) (cells wh wt : Nat) (lab : Nat → Nat) (w : World) (hp : Ints w lab pv path) (hd : Ints w lab dv done) (hpl : 1 ≤ path.length ∧ path.length ≤ 1000) (hdl : done.length ≤ 1000) (ht : -4000000000 ≤ t ∧ t ≤ 4000000000) (hB : 0 ≤ B ∧ B ≤ 4000000000) (hdb : ∀ y, y ∈ done → -B ≤ y ∧ y ≤ B) (hce : cells ≤ 1000) (hwh : wh ≤ 4611686018427387904) (hwt : wt ≤ 4611686018427387904) :
    Calls Try.prog 43 #[.agg #[.int .u8 (c), .int .i64 (t), pv, dv, .int .i64 (x)], .int .i64 (cells), .int .i64 (3), .int .i64 (wh), .int .i64 (wt)] w (tamPost c t x B path.length done.length w) := by
  obtain ⟨po, pc, hpv, -⟩ := hp.ex
  obtain ⟨dq, dc, hdv, -⟩ := hd.ex
  have hpi := hp.i64
  have HP := hid hp
  have HD := hid hd
  have HDB := hid hdb
  have HPI := hid hpi
  have AB2 : Hid (∀ w' : World, Calls Try.prog 73 #[.int .i64 (3)] w' fun e w'' => e = .returned (.int .i64 (3)) ∧ w'' = w') := fun w' => abs_any 3 w' (by omega)
  have r6 : (3 : Int).tmod 6 = 3 := by decide
  obtain ⟨pn, hpn⟩ : ∃ y, path.length = y := ⟨_, rfl⟩
  obtain ⟨dn, hdn⟩ : ∃ y, done.length = y := ⟨_, rfl⟩
  rw [hpn] at hpl
  rw [hdn] at hdl
  have HPN := hid hpn
  have HDN := hid hdn
  rw [hpn] at hpv
  rw [hdn] at hdv
  subst hpv hdv
  rw [hpn, hdn]
  clear hp hd hpn hdn hdb hpi
  go_enter Try.func43, Try.ntmps43
  go_wp2_with (first | (at_builtin; refine hold ?_))
  unfold Hid
  refine wpl_nm fun w1 hw1 => ?_
  have b1 : Below w.heap.size w w1 := by rw [hw1]; (repeat (first | with_reducible exact Below.rf _ | with_reducible exact World.below_ext _ _ | with_reducible refine Below.ex ?_ _ | with_reducible refine Below.al ?_ _ | with_reducible refine Below.setCell ?_ (by simp) _ | with_reducible refine Below.drew ?_))
  have hs1 : w1.heap.size = w.heap.size + 3 := by rw [hw1]; simp
  have A10 : Blk w1 (w.heap.size + 1) 5 (plz (.int .u8 0) (.int .i64 (0)) (.int .i64 (0)) (.slice none 0 0) (.slice none 0 0)) := by
    rw [hw1]
    refine ⟨by (simp <;> omega), fun i hi => ?_, fun i hi => by simp [go_sem, ↓IntWalk.iteOmega]⟩
    rcases (by omega : i = 0 ∨ i = 1 ∨ i = 2 ∨ i = 3 ∨ i = 4) with rfl | rfl | rfl | rfl | rfl <;> simp [go_sem, ↓IntWalk.iteOmega, plz]
  have A11 : Blk w1 (w.heap.size + 1 + 1) 5 (plz (.int .u8 c) (.int .i64 (t)) (.int .i64 (x)) (.slice po pn pc) (.slice dq dn dc)) := by
    rw [hw1]
    refine ⟨by (simp <;> omega), fun i hi => ?_, fun i hi => by simp [go_sem, ↓IntWalk.iteOmega]⟩
    rcases (by omega : i = 0 ∨ i = 1 ∨ i = 2 ∨ i = 3 ∨ i = 4) with rfl | rfl | rfl | rfl | rfl <;> simp [go_sem, ↓IntWalk.iteOmega, plz]
  have A5 : Blk w1 w.heap.size 5 (plz (.int .u8 c) (.int .i64 (t)) (.int .i64 (x)) (.slice po pn pc) (.slice dq dn dc)) := by
    rw [hw1]
    refine ⟨by (simp <;> omega), fun i hi => ?_, fun i hi => by simp [go_sem, ↓IntWalk.iteOmega]⟩
    rcases (by omega : i = 0 ∨ i = 1 ∨ i = 2 ∨ i = 3 ∨ i = 4) with rfl | rfl | rfl | rfl | rfl <;> simp [go_sem, ↓IntWalk.iteOmega, plz]
  clear hw1
  refine wpl_cpy rfl _ _ rfl lab (.slice po pn pc) path rfl rfl (HP.out.keptL (A := fun _ => False) (KeptL.of_below b1) (fun _ h => h.elim)) (by rw [HPN.out]; omega) ?_
  intro pv1 w2 hO1 hB1
  obtain ⟨po1, pc1, hpv1⟩ := hO1.val HPN.out
  subst hpv1
  rw [hs1] at hO1 hB1
  have B5 := A5.of_block (w' := w2) (by have := hB1.size; omega) (hB1.block _ (by omega))
  have B10 := A10.of_block (w' := w2) (by have := hB1.size; omega) (hB1.block _ (by omega))
  have B11 := A11.of_block (w' := w2) (by have := hB1.size; omega) (hB1.block _ (by omega))
  have b2 : Below w.heap.size w w2 := b1.trans (hB1.mono (by omega))
  have k11_2 : w2.cell? ⟨w.heap.size + 1 + 1, 2, none⟩ = some (.slice po pn pc) := B11.is 2 (by omega)
  have z11 : w2.frozen? ⟨w.heap.size + 1 + 1, 2, none⟩ = false := B11.fz 2 (by omega)
  have hl11 := B11.lt
  have k5_3 : w2.cell? ⟨w.heap.size, 3, none⟩ = some (.slice dq dn dc) := B5.is 3 (by omega)
  have hl5 := B5.lt
  have KK := hid (And.intro B10 (And.intro B11 (And.intro b2 hO1)))
  clear A5 A10 A11 B5 B10 B11 b1 hs1 hB1 b2 hO1
  go_wp2_with (first | (at_builtin; refine hold ?_))
  unfold Hid
  refine wpl_nm fun w3 hw3 => ?_
  obtain ⟨B10, B11, b2, hO1⟩ := KK.out
  clear KK
  have C10 : Blk w3 (w.heap.size + 1) 5 (plz (.int .u8 0) (.int .i64 (0)) (.int .i64 (0)) (.slice none 0 0) (.slice none 0 0)) := by
    rw [hw3]
    exact B10.of_block (by simp) (Below.heap_setCell _ _ _ _ (by simp <;> omega))
  have C11 : Blk w3 (w.heap.size + 1 + 1) 5 (plz (.int .u8 c) (.int .i64 (t)) (.int .i64 (x)) (.slice po1 pn pc1) (.slice dq dn dc)) := by
    rw [hw3]
    refine (B11.set 2 (.slice po1 pn pc1) (by omega)).congr (fun i hi => ?_)
    rcases (by omega : i = 0 ∨ i = 1 ∨ i = 2 ∨ i = 3 ∨ i = 4) with rfl | rfl | rfl | rfl | rfl <;> rfl
  have b3 : Below w.heap.size w w3 := by
    rw [hw3]
    exact Below.setCell b2 (by simp only []; omega) _
  have O1 : Ow w3 (w.heap.size + 3) (.slice po1 pn pc1) path := by
    rw [hw3]
    exact hO1.set (by omega)
  have hs3 : w.heap.size + 3 ≤ w3.heap.size := by
    have := C11.lt
    omega
  clear hw3 B10 B11 b2 hO1 k11_2 z11 hl11 k5_3 hl5
  refine wpl_cpy rfl _ _ rfl lab (.slice dq dn dc) done rfl rfl (HD.out.keptL (A := fun _ => False) (KeptL.of_below b3) (fun _ h => h.elim)) (by rw [HDN.out]; omega) ?_
  intro dv1 w4 hO2 hB2
  obtain ⟨dq1, dc1, hdv1⟩ := hO2.val HDN.out
  subst hdv1
  have D10 := C10.below hB2
  have D11 := C11.below hB2
  have b4 : Below w.heap.size w w4 := b3.trans (hB2.mono b3.size)
  have O2 := O1.below hB2
  have hne : ∀ g, (Value.slice po1 pn pc1).ownBlock = some g → (Value.slice dq1 dn dc1).ownBlock ≠ some g := fun g h1 h2 => by
    have h3 := (O1.lt h1).2
    have h4 := (hO2.lt h2).1
    omega
  have hO2 := hO2.low hs3
  have k11_3 : w4.cell? ⟨w.heap.size + 1 + 1, 3, none⟩ = some (.slice dq dn dc) := D11.is 3 (by omega)
  have z11 : w4.frozen? ⟨w.heap.size + 1 + 1, 3, none⟩ = false := D11.fz 3 (by omega)
  have hl11 := D11.lt
  have KK := hid (And.intro D10 (And.intro D11 (And.intro b4 (And.intro O2 hO2))))
  clear C10 C11 b3 O1 hs3 hB2 D10 D11 b4 O2 hO2
  go_wp2_with (first | (go_at_call 73; refine hold ?_))
  unfold Hid
  refine calls_nm fun w5 hw5 => ?_
  have HS : Hid (S43 w w5 c t x (.slice po1 pn pc1) (.slice dq1 dn dc1) path done) := by
    obtain ⟨D10, D11, b4, O2, hO2⟩ := KK.out
    unfold Hid
    rw [hw5]
    refine ⟨Below.setCell b4 (by simp only []; omega) _, ⟨_, D10.of_block (by simp) (Below.heap_setCell _ _ _ _ (by simp <;> omega))⟩, (D11.set 3 (.slice dq1 dn dc1) (by omega)).congr (fun i hi => ?_), O2.set (by omega), hO2.set (by omega), hne⟩
    rcases (by omega : i = 0 ∨ i = 1 ∨ i = 2 ∨ i = 3 ∨ i = 4) with rfl | rfl | rfl | rfl | rfl <;> rfl
  clear hw5 KK k11_3 z11 hl11 hne
  have AB : Hid (∀ (y : Nat) (w' : World), y ≤ 4611686018427387904 → Calls Try.prog 73 #[.int .i64 (y)] w' fun e w'' => e = .returned (.int .i64 (y)) ∧ w'' = w') := fun y w' hy => abs_any y w' hy
  refine (AB.out _ _ (by omega)).mono ?_
  rintro e w6 ⟨rfl, hw6⟩
  obtain rfl := hw6.symm
  by_cases hd0 : dn = 0
  · have d0 : decide ((0 : Int) < (dn : Int)) = false := by simp; omega
    have d0n : decide (0 < dn) = false := by simp; omega
    obtain ⟨f10, hf10⟩ := HS.out.b10
    have e10_0 := hf10.is 0 (by omega)
    have e10_1 := hf10.is 1 (by omega)
    have e10_2 := hf10.is 2 (by omega)
    have e10_3 := hf10.is 3 (by omega)
    have e10_4 := hf10.is 4 (by omega)
    have y10_0 := hf10.fz 0 (by omega)
    have y10_1 := hf10.fz 1 (by omega)
    have y10_2 := hf10.fz 2 (by omega)
    have y10_3 := hf10.fz 3 (by omega)
    have y10_4 := hf10.fz 4 (by omega)
    have hl10 := hf10.lt
    have e11_0 := HS.out.b11.is 0 (by omega)
    have e11_1 := HS.out.b11.is 1 (by omega)
    have e11_2 := HS.out.b11.is 2 (by omega)
    have e11_3 := HS.out.b11.is 3 (by omega)
    have e11_4 := HS.out.b11.is 4 (by omega)
    have y11_1 := HS.out.b11.fz 1 (by omega)
    have y11_2 := HS.out.b11.fz 2 (by omega)
    have y11_3 := HS.out.b11.fz 3 (by omega)
    have hl11 := HS.out.b11.lt
    simp only [plz] at e11_0 e11_1 e11_2 e11_3 e11_4
    clear hf10
    have HX : Hid ((t - 1 ≤ t ∧ t ≤ t + 1) ∧ path.length ≤ pn + 1 ∧ (∀ y, y ∈ path → I64 y) ∧ done.length ≤ dn ∧ (∀ y, y ∈ done → -B - 2 ≤ y ∧ y ≤ B + 2)) := ⟨by omega, by rw [HPN.out]; omega, HPI.out, by rw [HDN.out]; omega, fun y hy => by have := HDB.out y hy; omega⟩
    go_wp2_with (first | (go_at_call 73; with_reducible refine (AB2.out _).mono ?_; rintro e w6 ⟨rfl, hw6⟩; obtain rfl := hw6.symm) | (go_at_call 73; refine (AB.out _ _ (by omega)).mono ?_; rintro e w6 ⟨rfl, hw6⟩; obtain rfl := hw6.symm))
    refine bodyPost_ret (v := .agg #[.int .u8 (c), .int .i64 (t), .slice po1 pn pc1, .slice dq1 dn dc1, .int .i64 (x)]) (by simp [results, Try.results43, go_sem, ↓IntWalk.iteOmega, *]) rfl ?_
    refine ⟨t, .slice po1 pn pc1, .slice dq1 dn dc1, path, done, rfl, ?_, ?_, ?_, HX.out⟩
    · skip
      iterate 5 refine Below.setCell ?_ (by simp only []; omega) _
      exact HS.out.bl
    · refine Ow.low (base := w.heap.size + 3) ?_ (by omega)
      skip
      iterate 5 refine Ow.set ?_ (by omega)
      exact HS.out.p
    · refine Ow.low (base := w.heap.size + 3) ?_ (by omega)
      skip
      iterate 5 refine Ow.set ?_ (by omega)
      exact HS.out.d
  · have d0 : decide ((0 : Int) < (dn : Int)) = true := by simp; omega
    have d0n : decide (0 < dn) = true := by simp; omega
    obtain ⟨g, dc2, hgv, hgc, hgb, hgl, hgi, hgf⟩ := HS.out.d.see (by rw [HDN.out]; omega)
    rw [HDN.out] at hgv hgc hgi
    simp only [Value.slice.injEq, true_and] at hgv
    obtain ⟨rfl, rfl⟩ := hgv
    obtain ⟨f10, hf10⟩ := HS.out.b10
    have e10_0 := hf10.is 0 (by omega)
    have e10_1 := hf10.is 1 (by omega)
    have e10_2 := hf10.is 2 (by omega)
    have e10_3 := hf10.is 3 (by omega)
    have e10_4 := hf10.is 4 (by omega)
    have y10_0 := hf10.fz 0 (by omega)
    have y10_1 := hf10.fz 1 (by omega)
    have y10_2 := hf10.fz 2 (by omega)
    have y10_3 := hf10.fz 3 (by omega)
    have y10_4 := hf10.fz 4 (by omega)
    have hl10 := hf10.lt
    have e11_0 := HS.out.b11.is 0 (by omega)
    have e11_1 := HS.out.b11.is 1 (by omega)
    have e11_2 := HS.out.b11.is 2 (by omega)
    have e11_3 := HS.out.b11.is 3 (by omega)
    have e11_4 := HS.out.b11.is 4 (by omega)
    have y11_1 := HS.out.b11.fz 1 (by omega)
    have y11_2 := HS.out.b11.fz 2 (by omega)
    have y11_3 := HS.out.b11.fz 3 (by omega)
    have hl11 := HS.out.b11.lt
    simp only [plz] at e11_0 e11_1 e11_2 e11_3 e11_4
    clear hf10
    obtain ⟨ix, hix, hixl⟩ : ∃ y : Nat, (wh : Int).tmod (dn : Int) = y ∧ y < dn := ⟨wh % dn, by rw [Int.tmod_eq_emod_of_nonneg (by omega)]; simp, Nat.mod_lt _ (by omega)⟩
    have dp0 : ((dn : Int) == 0) = false := by simp; omega
    obtain ⟨m5, hm2, hm4⟩ : ∃ y : Int, ((wt : Int).tmod 5) = y ∧ 0 ≤ y ∧ y < 5 := ⟨_, rfl, by rw [Int.tmod_eq_emod_of_nonneg (by omega)]; omega⟩
    have hm5 := hm4.2
    have hm6 := hm4.1
    have gi := hgi ix (by omega)
    have gf := hgf ix
    have dix : decide (ix < dn) = true := by simp; omega
    have HLX : Hid (ix < done.length) := by unfold Hid; rw [HDN.out]; exact hixl
    have hdy := HDB.out (done.getD ix 0) (by rw [List.getD_eq_getElem?_getD, List.getElem?_eq_getElem HLX.out]; exact List.getElem_mem HLX.out)
    obtain ⟨dy, hdy2⟩ : ∃ y, done.getD ix 0 = y := ⟨_, rfl⟩
    rw [hdy2] at hdy gi
    have hy1 := hdy.1
    have hy2 := hdy.2
    have hB1 := hB.2
    clear hdy2 hdy
    have HX : Hid ((t - 1 ≤ t ∧ t ≤ t + 1) ∧ path.length ≤ pn + 1 ∧ (∀ y, y ∈ path → I64 y) ∧ (done.set ix (dy + (m5 - 2))).length ≤ dn ∧ (∀ y, y ∈ done.set ix (dy + (m5 - 2)) → -B - 2 ≤ y ∧ y ≤ B + 2)) := ⟨by omega, by rw [HPN.out]; omega, HPI.out, by rw [List.length_set, HDN.out]; omega, fun y hy => by
      rcases List.mem_or_eq_of_mem_set hy with h | h
      · have := HDB.out y h; omega
      · rw [h]; omega⟩
    have HNE : Hid (∀ g', (Value.slice po1 pn pc1).ownBlock = some g' → g' ≠ g) := fun g' h1 h2 => HS.out.ne g' h1 (by rw [h2]; rfl)
    clear hgi hgf hm4
    go_wp2_with (first | (go_at_call 73; with_reducible refine (AB2.out _).mono ?_; rintro e w6 ⟨rfl, hw6⟩; obtain rfl := hw6.symm) | (go_at_call 73; refine (AB.out _ _ (by omega)).mono ?_; rintro e w6 ⟨rfl, hw6⟩; obtain rfl := hw6.symm))
    first | with_reducible refine wp_region_tail_ext2 13 (by kernel_rfl) (by kernel_rfl) ?_ | refine wp_region_tail_ext 13 (by kernel_rfl) (by kernel_rfl) ?_
    simp only [List.take_succ_cons, List.take_zero, List.drop_succ_cons, List.drop_zero]
    repeat (go_big_quiet_step (fail))
    refine wpQuiet_nil ?_
    rintro _ ⟨z, rfl⟩
    go_wp2
    refine bodyPost_ret (v := .agg #[.int .u8 (c), .int .i64 (t), .slice po1 pn pc1, .slice (some ⟨g, 0, none⟩) dn dc1, .int .i64 (x)]) (by simp [results, Try.results43, go_sem, ↓IntWalk.iteOmega, *]) rfl ?_
    refine ⟨t, .slice po1 pn pc1, .slice (some ⟨g, 0, none⟩) dn dc1, path, done.set ix (dy + (m5 - 2)), rfl, ?_, ?_, ?_, HX.out⟩
    · refine Below.ex ?_ _
      iterate 5 refine Below.setCell ?_ (by simp only []; omega) _
      exact Below.setCell HS.out.bl (by simp only []; omega) _
    · refine Ow.low (base := w.heap.size + 3) ?_ (by omega)
      refine Ow.below ?_ (World.below_ext _ _)
      iterate 5 refine Ow.set ?_ (by omega)
      exact HS.out.p.of_block (fun g' hg' => Below.heap_setCell _ _ _ _ (HNE.out g' hg'))
    · refine Ow.low (base := w.heap.size + 3) ?_ (by omega)
      refine Ow.below ?_ (World.below_ext _ _)
      iterate 5 refine Ow.set ?_ (by omega)
      exact HS.out.d.put rfl HLX.out _
--END 3
theorem slice_l1 (b a k len cap : Nat) (h : k ≤ len) (h1 : len ≤ cap) (h2 : k < cap) (w : World) : (Instr.sliceAt 32 (.slice (some ⟨b, a, none⟩) len cap) (some (.int .i64 (k))) none none).run Try.prog w = .ok (.slice (some ⟨b, a + k, none⟩) (len - k) (cap - k)) w := by
  have he : (Try.prog).elem 32 = 3 := by simp [Program.elem, Try.underlying32]
  have ht' : (Try.prog).underlying 32 = some (.slice ((Try.prog).elem 32)) := by rw [he]; exact Try.underlying32
  rw [run_sliceAt_slice _ _ _ _ _ _ ht', run_slice_l _ _ _ _ _ ht' _ _ (by omega) (by omega)]
  have hsz : (sizeOf ((Try.prog).elem 32)).run Try.prog w = .ok 1 w := by rw [he]; kernel_rfl
  rw [hsz]
  simp only [Result.andThen, sliced, Int.toNat_natCast]
  rw [if_neg (by omega)]
  simp [Addr.add_lit]
--BEGIN 5
set_option maxHeartbeats 4000000 in
theorem tam5 (c t x B : Int) (pv dv : Value) (path done : List Int) (cells wh wt : Nat) (lab : Nat → Nat) (w : World) (hp : Ints w lab pv path) (hd : Ints w lab dv done) (hpl : 1 ≤ path.length ∧ path.length ≤ 1000) (hdl : done.length ≤ 1000) (ht : -4000000000 ≤ t ∧ t ≤ 4000000000) (hB : 0 ≤ B ∧ B ≤ 4000000000) (hdb : ∀ y, y ∈ done → -B ≤ y ∧ y ≤ B) (hce : cells ≤ 1000) (hwh : wh ≤ 4611686018427387904) (hwt : wt ≤ 4611686018427387904) :
    Calls Try.prog 43 #[.agg #[.int .u8 (c), .int .i64 (t), pv, dv, .int .i64 (x)], .int .i64 (cells), .int .i64 (5), .int .i64 (wh), .int .i64 (wt)] w (tamPost c t x B path.length done.length w) := by
  obtain ⟨po, pc, hpv, -⟩ := hp.ex
  obtain ⟨dq, dc, hdv, -⟩ := hd.ex
  have hpi := hp.i64
  have HP := hid hp
  have HD := hid hd
  have HDB := hid hdb
  have HPI := hid hpi
  have AB2 : Hid (∀ w' : World, Calls Try.prog 73 #[.int .i64 (5)] w' fun e w'' => e = .returned (.int .i64 (5)) ∧ w'' = w') := fun w' => abs_any 5 w' (by omega)
  have r6 : (5 : Int).tmod 6 = 5 := by decide
  obtain ⟨pn, hpn⟩ : ∃ y, path.length = y := ⟨_, rfl⟩
  obtain ⟨dn, hdn⟩ : ∃ y, done.length = y := ⟨_, rfl⟩
  rw [hpn] at hpl
  rw [hdn] at hdl
  have HPN := hid hpn
  have HDN := hid hdn
  rw [hpn] at hpv
  rw [hdn] at hdv
  subst hpv hdv
  rw [hpn, hdn]
  clear hp hd hpn hdn hdb hpi
  go_enter Try.func43, Try.ntmps43
  go_wp2_with (first | (at_builtin; refine hold ?_))
  unfold Hid
  refine wpl_nm fun w1 hw1 => ?_
  have b1 : Below w.heap.size w w1 := by rw [hw1]; (repeat (first | with_reducible exact Below.rf _ | with_reducible exact World.below_ext _ _ | with_reducible refine Below.ex ?_ _ | with_reducible refine Below.al ?_ _ | with_reducible refine Below.setCell ?_ (by simp) _ | with_reducible refine Below.drew ?_))
  have hs1 : w1.heap.size = w.heap.size + 3 := by rw [hw1]; simp
  have A10 : Blk w1 (w.heap.size + 1) 5 (plz (.int .u8 0) (.int .i64 (0)) (.int .i64 (0)) (.slice none 0 0) (.slice none 0 0)) := by
    rw [hw1]
    refine ⟨by (simp <;> omega), fun i hi => ?_, fun i hi => by simp [go_sem, ↓IntWalk.iteOmega]⟩
    rcases (by omega : i = 0 ∨ i = 1 ∨ i = 2 ∨ i = 3 ∨ i = 4) with rfl | rfl | rfl | rfl | rfl <;> simp [go_sem, ↓IntWalk.iteOmega, plz]
  have A11 : Blk w1 (w.heap.size + 1 + 1) 5 (plz (.int .u8 c) (.int .i64 (t)) (.int .i64 (x)) (.slice po pn pc) (.slice dq dn dc)) := by
    rw [hw1]
    refine ⟨by (simp <;> omega), fun i hi => ?_, fun i hi => by simp [go_sem, ↓IntWalk.iteOmega]⟩
    rcases (by omega : i = 0 ∨ i = 1 ∨ i = 2 ∨ i = 3 ∨ i = 4) with rfl | rfl | rfl | rfl | rfl <;> simp [go_sem, ↓IntWalk.iteOmega, plz]
  have A5 : Blk w1 w.heap.size 5 (plz (.int .u8 c) (.int .i64 (t)) (.int .i64 (x)) (.slice po pn pc) (.slice dq dn dc)) := by
    rw [hw1]
    refine ⟨by (simp <;> omega), fun i hi => ?_, fun i hi => by simp [go_sem, ↓IntWalk.iteOmega]⟩
    rcases (by omega : i = 0 ∨ i = 1 ∨ i = 2 ∨ i = 3 ∨ i = 4) with rfl | rfl | rfl | rfl | rfl <;> simp [go_sem, ↓IntWalk.iteOmega, plz]
  clear hw1
  refine wpl_cpy rfl _ _ rfl lab (.slice po pn pc) path rfl rfl (HP.out.keptL (A := fun _ => False) (KeptL.of_below b1) (fun _ h => h.elim)) (by rw [HPN.out]; omega) ?_
  intro pv1 w2 hO1 hB1
  obtain ⟨po1, pc1, hpv1⟩ := hO1.val HPN.out
  subst hpv1
  rw [hs1] at hO1 hB1
  have B5 := A5.of_block (w' := w2) (by have := hB1.size; omega) (hB1.block _ (by omega))
  have B10 := A10.of_block (w' := w2) (by have := hB1.size; omega) (hB1.block _ (by omega))
  have B11 := A11.of_block (w' := w2) (by have := hB1.size; omega) (hB1.block _ (by omega))
  have b2 : Below w.heap.size w w2 := b1.trans (hB1.mono (by omega))
  have k11_2 : w2.cell? ⟨w.heap.size + 1 + 1, 2, none⟩ = some (.slice po pn pc) := B11.is 2 (by omega)
  have z11 : w2.frozen? ⟨w.heap.size + 1 + 1, 2, none⟩ = false := B11.fz 2 (by omega)
  have hl11 := B11.lt
  have k5_3 : w2.cell? ⟨w.heap.size, 3, none⟩ = some (.slice dq dn dc) := B5.is 3 (by omega)
  have hl5 := B5.lt
  have KK := hid (And.intro B10 (And.intro B11 (And.intro b2 hO1)))
  clear A5 A10 A11 B5 B10 B11 b1 hs1 hB1 b2 hO1
  go_wp2_with (first | (at_builtin; refine hold ?_))
  unfold Hid
  refine wpl_nm fun w3 hw3 => ?_
  obtain ⟨B10, B11, b2, hO1⟩ := KK.out
  clear KK
  have C10 : Blk w3 (w.heap.size + 1) 5 (plz (.int .u8 0) (.int .i64 (0)) (.int .i64 (0)) (.slice none 0 0) (.slice none 0 0)) := by
    rw [hw3]
    exact B10.of_block (by simp) (Below.heap_setCell _ _ _ _ (by simp <;> omega))
  have C11 : Blk w3 (w.heap.size + 1 + 1) 5 (plz (.int .u8 c) (.int .i64 (t)) (.int .i64 (x)) (.slice po1 pn pc1) (.slice dq dn dc)) := by
    rw [hw3]
    refine (B11.set 2 (.slice po1 pn pc1) (by omega)).congr (fun i hi => ?_)
    rcases (by omega : i = 0 ∨ i = 1 ∨ i = 2 ∨ i = 3 ∨ i = 4) with rfl | rfl | rfl | rfl | rfl <;> rfl
  have b3 : Below w.heap.size w w3 := by
    rw [hw3]
    exact Below.setCell b2 (by simp only []; omega) _
  have O1 : Ow w3 (w.heap.size + 3) (.slice po1 pn pc1) path := by
    rw [hw3]
    exact hO1.set (by omega)
  have hs3 : w.heap.size + 3 ≤ w3.heap.size := by
    have := C11.lt
    omega
  clear hw3 B10 B11 b2 hO1 k11_2 z11 hl11 k5_3 hl5
  refine wpl_cpy rfl _ _ rfl lab (.slice dq dn dc) done rfl rfl (HD.out.keptL (A := fun _ => False) (KeptL.of_below b3) (fun _ h => h.elim)) (by rw [HDN.out]; omega) ?_
  intro dv1 w4 hO2 hB2
  obtain ⟨dq1, dc1, hdv1⟩ := hO2.val HDN.out
  subst hdv1
  have D10 := C10.below hB2
  have D11 := C11.below hB2
  have b4 : Below w.heap.size w w4 := b3.trans (hB2.mono b3.size)
  have O2 := O1.below hB2
  have hne : ∀ g, (Value.slice po1 pn pc1).ownBlock = some g → (Value.slice dq1 dn dc1).ownBlock ≠ some g := fun g h1 h2 => by
    have h3 := (O1.lt h1).2
    have h4 := (hO2.lt h2).1
    omega
  have hO2 := hO2.low hs3
  have k11_3 : w4.cell? ⟨w.heap.size + 1 + 1, 3, none⟩ = some (.slice dq dn dc) := D11.is 3 (by omega)
  have z11 : w4.frozen? ⟨w.heap.size + 1 + 1, 3, none⟩ = false := D11.fz 3 (by omega)
  have hl11 := D11.lt
  have KK := hid (And.intro D10 (And.intro D11 (And.intro b4 (And.intro O2 hO2))))
  clear C10 C11 b3 O1 hs3 hB2 D10 D11 b4 O2 hO2
  go_wp2_with (first | (go_at_call 73; refine hold ?_))
  unfold Hid
  refine calls_nm fun w5 hw5 => ?_
  have HS : Hid (S43 w w5 c t x (.slice po1 pn pc1) (.slice dq1 dn dc1) path done) := by
    obtain ⟨D10, D11, b4, O2, hO2⟩ := KK.out
    unfold Hid
    rw [hw5]
    refine ⟨Below.setCell b4 (by simp only []; omega) _, ⟨_, D10.of_block (by simp) (Below.heap_setCell _ _ _ _ (by simp <;> omega))⟩, (D11.set 3 (.slice dq1 dn dc1) (by omega)).congr (fun i hi => ?_), O2.set (by omega), hO2.set (by omega), hne⟩
    rcases (by omega : i = 0 ∨ i = 1 ∨ i = 2 ∨ i = 3 ∨ i = 4) with rfl | rfl | rfl | rfl | rfl <;> rfl
  clear hw5 KK k11_3 z11 hl11 hne
  have AB : Hid (∀ (y : Nat) (w' : World), y ≤ 4611686018427387904 → Calls Try.prog 73 #[.int .i64 (y)] w' fun e w'' => e = .returned (.int .i64 (y)) ∧ w'' = w') := fun y w' hy => abs_any y w' hy
  refine (AB.out _ _ (by omega)).mono ?_
  rintro e w6 ⟨rfl, hw6⟩
  obtain rfl := hw6.symm
  obtain ⟨g, pc2, hgv, hgc, hgb, hgl, hgi, hgf⟩ := HS.out.p.see (by rw [HPN.out]; omega)
  rw [HPN.out] at hgv hgc hgi
  simp only [Value.slice.injEq, true_and] at hgv
  obtain ⟨rfl, rfl⟩ := hgv
  obtain ⟨f10, hf10⟩ := HS.out.b10
  have e10_0 := hf10.is 0 (by omega)
  have e10_1 := hf10.is 1 (by omega)
  have e10_2 := hf10.is 2 (by omega)
  have e10_3 := hf10.is 3 (by omega)
  have e10_4 := hf10.is 4 (by omega)
  have y10_0 := hf10.fz 0 (by omega)
  have y10_1 := hf10.fz 1 (by omega)
  have y10_2 := hf10.fz 2 (by omega)
  have y10_3 := hf10.fz 3 (by omega)
  have y10_4 := hf10.fz 4 (by omega)
  have hl10 := hf10.lt
  have e11_0 := HS.out.b11.is 0 (by omega)
  have e11_1 := HS.out.b11.is 1 (by omega)
  have e11_2 := HS.out.b11.is 2 (by omega)
  have e11_3 := HS.out.b11.is 3 (by omega)
  have e11_4 := HS.out.b11.is 4 (by omega)
  have y11_1 := HS.out.b11.fz 1 (by omega)
  have y11_2 := HS.out.b11.fz 2 (by omega)
  have y11_3 := HS.out.b11.fz 3 (by omega)
  have hl11 := HS.out.b11.lt
  simp only [plz] at e11_0 e11_1 e11_2 e11_3 e11_4
  clear hf10
  obtain ⟨ix, hix, hixl⟩ : ∃ y : Nat, (wh : Int).tmod (pn : Int) = y ∧ y < pn := ⟨wh % pn, by rw [Int.tmod_eq_emod_of_nonneg (by omega)]; simp, Nat.mod_lt _ (by omega)⟩
  have dp0 : ((pn : Int) == 0) = false := by simp; omega
  have hsl := fun w => slice_h1 g 0 (ix + 1) pn pc1 (by omega) (by omega) w
  have hsl2 := fun w => slice_l1 g 0 ix pn pc1 (by omega) (by omega) (by omega) w
  have HOP : Hid (Ow w5 (w.heap.size + 3) (.slice (some ⟨g, 0, none⟩) (ix + 1) pc1) (path.take (ix + 1))) := HS.out.p.take rfl (by rw [HPN.out]; omega)
  have HL : Hid ((path.take (ix + 1) ++ path.drop ix).length = pn + 1) := by unfold Hid; simp [HPN.out]; omega
  have HX : Hid ((t - 1 ≤ t ∧ t ≤ t + 1) ∧ (path.take (ix + 1) ++ path.drop ix).length ≤ pn + 1 ∧ (∀ y, y ∈ path.take (ix + 1) ++ path.drop ix → I64 y) ∧ done.length ≤ dn ∧ (∀ y, y ∈ done → -B - 2 ≤ y ∧ y ≤ B + 2)) := ⟨by omega, by rw [HL.out]; omega, fun y hy => by
    rcases List.mem_append.1 hy with h | h
    · exact HPI.out y (List.mem_of_mem_take h)
    · exact HPI.out y (List.mem_of_mem_drop h), by rw [HDN.out]; omega, fun y hy => by have := HDB.out y hy; omega⟩
  have HGI := hid hgi
  have hs3 : w.heap.size + 3 ≤ w5.heap.size := by omega
  clear hgi hgf
  go_wp2_with (first | (go_at_call 73; with_reducible refine (AB2.out _).mono ?_; rintro e w6 ⟨rfl, hw6⟩; obtain rfl := hw6.symm) | (go_at_call 73; refine (AB.out _ _ (by omega)).mono ?_; rintro e w6 ⟨rfl, hw6⟩; obtain rfl := hw6.symm))
  first | with_reducible refine wp_region_tail_ext2 9 (by kernel_rfl) (by kernel_rfl) ?_ | refine wp_region_tail_ext 9 (by kernel_rfl) (by kernel_rfl) ?_
  simp only [List.take_succ_cons, List.take_zero, List.drop_succ_cons, List.drop_zero]
  repeat (go_big_quiet_step (fail))
  refine wpQuiet_nil ?_
  rintro _ ⟨z, rfl⟩
  refine wpl_oap rfl _ _ rfl (w.heap.size + 3) _ (path.take (ix + 1)) rfl (HOP.out.below (World.below_ext w5 z)) (Nat.le_trans hs3 (World.below_ext w5 z).size) _ _ _ (path.drop ix) rfl (by rw [List.length_drop, HPN.out]) ?_ ⟨by simp; omega, by omega⟩ ?_
  · intro j y hj
    rw [Addr.add_lit]
    rw [List.getElem?_drop] at hj
    have hjl : ix + j < pn := by
      have := (List.getElem?_eq_some_iff.1 hj).1
      rw [HPN.out] at this
      exact this
    rw [World.cell?_of_block ((World.below_ext w5 z).block g hgl), HGI.out (ix + j) hjl, List.getD_eq_getElem?_getD, hj]
    rfl
  intro v6 w6 hO6 hG6
  obtain ⟨ao6, c6, hv6⟩ := hO6.val HL.out
  subst hv6
  obtain ⟨b6, ⟨f6, hf6⟩, hb11, hod⟩ := HS.out.app (World.below_ext w5 z) hG6
  clear e10_0 e10_1 e10_2 e10_3 e10_4 y10_0 y10_1 y10_2 y10_3 y10_4 hl10 e11_0 e11_1 e11_2 e11_3 e11_4 y11_1 y11_2 y11_3 hl11 hG6
  have e10_0 := hf6.is 0 (by omega)
  have e10_1 := hf6.is 1 (by omega)
  have e10_2 := hf6.is 2 (by omega)
  have e10_3 := hf6.is 3 (by omega)
  have e10_4 := hf6.is 4 (by omega)
  have y10_0 := hf6.fz 0 (by omega)
  have y10_1 := hf6.fz 1 (by omega)
  have y10_2 := hf6.fz 2 (by omega)
  have y10_3 := hf6.fz 3 (by omega)
  have y10_4 := hf6.fz 4 (by omega)
  have hl10 := hf6.lt
  have e11_0 := hb11.is 0 (by omega)
  have e11_1 := hb11.is 1 (by omega)
  have e11_2 := hb11.is 2 (by omega)
  have e11_3 := hb11.is 3 (by omega)
  have e11_4 := hb11.is 4 (by omega)
  have y11_2 := hb11.fz 2 (by omega)
  have hl11 := hb11.lt
  simp only [plz] at e11_0 e11_1 e11_2 e11_3 e11_4
  have HB6 := hid b6
  have HO6 := hid hO6
  have HOD := hid hod
  clear hf6 hb11 b6 hO6 hod
  go_wp2
  refine bodyPost_ret (v := .agg #[.int .u8 (c), .int .i64 (t), .slice ao6 (pn + 1) c6, .slice dq1 dn dc1, .int .i64 (x)]) (by simp [results, Try.results43, go_sem, ↓IntWalk.iteOmega, *]) rfl ?_
  refine ⟨t, .slice ao6 (pn + 1) c6, .slice dq1 dn dc1, path.take (ix + 1) ++ path.drop ix, done, rfl, ?_, ?_, ?_, HX.out⟩
  · skip
    iterate 5 refine Below.setCell ?_ (by simp only []; omega) _
    exact Below.setCell HB6.out (by simp only []; omega) _
  · refine Ow.low (base := w.heap.size + 3) ?_ (by omega)
    skip
    iterate 5 refine Ow.set ?_ (by omega)
    exact HO6.out.set (by omega)
  · refine Ow.low (base := w.heap.size + 3) ?_ (by omega)
    skip
    iterate 5 refine Ow.set ?_ (by omega)
    exact HOD.out.set (by omega)
--END 5
/-- Such an append leaves the old list's cells as they were. -/
theorem wp_oap2 {w : World} {o : Oper} {a : Act} {K : Act → World → Prop} {Q : Exit → Act → World → Prop} (s x : Operand)
    (ho : o.op = .call { callee := .builtin .append, args := #[s, x], argTypes := #[32, 32] })
    (base g n cap : Nat) (l : List Int) (hs : a.eval s = .slice (some ⟨g, 0, none⟩) n cap) (hO : Ow w base (.slice (some ⟨g, 0, none⟩) n cap) l) (hb : base ≤ w.heap.size) (ad : Addr) (m c : Nat) (l2 : List Int) (hx : a.eval x = .slice (some ad) m c) (hm : l2.length = m) (hc : ∀ (j : Nat) (y : Int), l2[j]? = some y → w.cell? (ad.add j) = some (.int .i64 (y))) (hl : l.length ≤ 1000000 ∧ m ≤ 1000000) (h0 : 0 < l.length) (h1 : 0 < m)
    (h : ∀ v' w', Ow w' base v' (l ++ l2) → w.grownBy w' (some g) → (∀ j, j < l.length → w'.cell? ⟨g, j, none⟩ = some (.int .i64 (l.getD j 0))) → K (a.put o.dst v') w') : Oper.wp Try.prog o a w K Q := by
  obtain ⟨g', cap', hv, hnc, hgb, hgl, hgi, hgf⟩ := hO.see h0
  simp only [Value.slice.injEq, Option.some.injEq, Addr.mk.injEq, and_true] at hv
  obtain ⟨rfl, rfl, rfl⟩ := hv
  obtain ⟨i, hi, hz0, hz1, hz2⟩ := info_parts (P := Try.prog) (e := 3) (z := .int .i64 (0)) (size := 1) (bytes := 8) (by kernel_rfl)
  have hn1 : (l2.map (fun y => (.int .i64 (y) : Value))).length = m * 1 := by simp [hm]
  have hn2 : ∀ (j : Nat) u, (l2.map (fun y => (.int .i64 (y) : Value)))[j]? = some u → w.cell? (ad.add j) = some u := fun j u hj => by
    simp at hj
    obtain ⟨y2, hj1, rfl⟩ := hj
    exact hc j y2 hj1
  have hn3 : ∀ u ∈ l2.map (fun y => (.int .i64 (y) : Value)), u.oneCell' = true := fun u hu => by
    simp at hu
    obtain ⟨y2, -, rfl⟩ := hu
    rfl
  obtain ⟨v', w', hr, k2, k3, k4⟩ := run_append_own (P := Try.prog) w base 32 o.type 3 i (.int .i64 (0)) 1 8 Try.underlying32 hi hz0 hz1 hz2 rfl (by omega) _ l.length (l.map (fun y => .int .i64 (y))) hO ad m c (l2.map (fun y => .int .i64 (y))) hn1 hn2 hn3 (by simp only [maxLen]; omega) (by omega) hb
  have hOw : Ow w' base v' (l ++ l2) := by
    unfold Ow
    rw [List.length_append, List.map_append, hm]
    exact k2
  have hcell : ∀ j, j < l.length → w'.cell? ⟨g, j, none⟩ = some (.int .i64 (l.getD j 0)) := by
    by_cases hroom : l.length + m ≤ cap
    · obtain ⟨w9, hr9⟩ : ∃ w9, (Builtin.append_ #[32, 32] o.type #[.slice (some ⟨g, 0, none⟩) l.length cap, .slice (some ad) m c]).run Try.prog w = .ok (.slice (some ⟨g, 0, none⟩) (l.length + m) cap) w9 := by
        obtain ⟨g3, cap3, e1, e2, e3, hpad⟩ := own_pad hO h0
        simp only [Value.slice.injEq, Option.some.injEq, Addr.mk.injEq, and_true] at e1
        obtain ⟨rfl, -, rfl⟩ := e1
        exact ⟨_, run_append_room_cells (P := Try.prog) w 32 o.type 3 i Try.underlying32 hi g 0 l.length cap ad m c (l2.map (fun y => .int .i64 (y))) (by rw [hz1]; exact hn1) hn2 hn3 hroom (fun j hj => by rw [hz1, Nat.zero_add]; exact hpad.has _ (by rw [hn1] at hj; omega)) (fun j hj => by rw [hz1, Nat.zero_add]; exact hpad.fz _ (by rw [hn1] at hj; omega))⟩
      rw [hr] at hr9
      simp only [Result.ok.injEq] at hr9
      obtain ⟨rfl, rfl⟩ := hr9
      obtain ⟨g2, cap2, e1, e2, e3, e4, e5, e6⟩ := hOw.see (by simp; omega)
      simp only [Value.slice.injEq, Option.some.injEq, Addr.mk.injEq, and_true] at e1
      obtain ⟨rfl, -, rfl⟩ := e1
      intro j hj
      rw [e5 j (by simp; omega), List.getD_eq_getElem?_getD, List.getElem?_append_left hj, List.getD_eq_getElem?_getD]
    · obtain ⟨v9, w9, hr9, r1, r2⟩ := run_append_arg_grows (P := Try.prog) w 32 o.type 3 i (.int .i64 (0)) 1 8 Try.underlying32 hi hz0 hz1 hz2 rfl (by omega) ⟨g, 0, none⟩ l.length cap (l.map (fun y => .int .i64 (y))) (by simp) (fun j u hj => by
        simp at hj
        obtain ⟨y2, hj1, rfl⟩ := hj
        have hjl := (List.getElem?_eq_some_iff.1 hj1).1
        rw [Addr.add_lit, Nat.zero_add, hgi j hjl, List.getD_eq_getElem?_getD, hj1]
        rfl) ad m c (l2.map (fun y => .int .i64 (y))) hn1 hn2 (by omega) (by simp only [maxLen]; omega) (by omega)
      rw [hr] at hr9
      simp only [Result.ok.injEq] at hr9
      obtain ⟨rfl, rfl⟩ := hr9
      intro j hj
      rw [World.cell?_of_block (r2.block g hgl (by simp))]
      exact hgi j hj
  unfold Oper.wp
  simp [execOp, ho, resolve, invoke, builtin, hs, hx, hr, Result.andThen]
  exact h v' w' hOw k3 hcell
--BEGIN 2
set_option maxHeartbeats 4000000 in
theorem tam2 (c t x B : Int) (pv dv : Value) (path done : List Int) (cells wh wt : Nat) (lab : Nat → Nat) (w : World) (hp : Ints w lab pv path) (hd : Ints w lab dv done) (hpl : 1 ≤ path.length ∧ path.length ≤ 1000) (hdl : done.length ≤ 1000) (ht : -4000000000 ≤ t ∧ t ≤ 4000000000) (hB : 0 ≤ B ∧ B ≤ 4000000000) (hdb : ∀ y, y ∈ done → -B ≤ y ∧ y ≤ B) (hce : cells ≤ 1000) (hwh : wh ≤ 4611686018427387904) (hwt : wt ≤ 4611686018427387904) :
    Calls Try.prog 43 #[.agg #[.int .u8 (c), .int .i64 (t), pv, dv, .int .i64 (x)], .int .i64 (cells), .int .i64 (2), .int .i64 (wh), .int .i64 (wt)] w (tamPost c t x B path.length done.length w) := by
  obtain ⟨po, pc, hpv, -⟩ := hp.ex
  obtain ⟨dq, dc, hdv, -⟩ := hd.ex
  have hpi := hp.i64
  have HP := hid hp
  have HD := hid hd
  have HDB := hid hdb
  have HPI := hid hpi
  have AB2 : Hid (∀ w' : World, Calls Try.prog 73 #[.int .i64 (2)] w' fun e w'' => e = .returned (.int .i64 (2)) ∧ w'' = w') := fun w' => abs_any 2 w' (by omega)
  have r6 : (2 : Int).tmod 6 = 2 := by decide
  obtain ⟨pn, hpn⟩ : ∃ y, path.length = y := ⟨_, rfl⟩
  obtain ⟨dn, hdn⟩ : ∃ y, done.length = y := ⟨_, rfl⟩
  rw [hpn] at hpl
  rw [hdn] at hdl
  have HPN := hid hpn
  have HDN := hid hdn
  rw [hpn] at hpv
  rw [hdn] at hdv
  subst hpv hdv
  rw [hpn, hdn]
  clear hp hd hpn hdn hdb hpi
  go_enter Try.func43, Try.ntmps43
  go_wp2_with (first | (at_builtin; refine hold ?_))
  unfold Hid
  refine wpl_nm fun w1 hw1 => ?_
  have b1 : Below w.heap.size w w1 := by rw [hw1]; (repeat (first | with_reducible exact Below.rf _ | with_reducible exact World.below_ext _ _ | with_reducible refine Below.ex ?_ _ | with_reducible refine Below.al ?_ _ | with_reducible refine Below.setCell ?_ (by simp) _ | with_reducible refine Below.drew ?_))
  have hs1 : w1.heap.size = w.heap.size + 3 := by rw [hw1]; simp
  have A10 : Blk w1 (w.heap.size + 1) 5 (plz (.int .u8 0) (.int .i64 (0)) (.int .i64 (0)) (.slice none 0 0) (.slice none 0 0)) := by
    rw [hw1]
    refine ⟨by (simp <;> omega), fun i hi => ?_, fun i hi => by simp [go_sem, ↓IntWalk.iteOmega]⟩
    rcases (by omega : i = 0 ∨ i = 1 ∨ i = 2 ∨ i = 3 ∨ i = 4) with rfl | rfl | rfl | rfl | rfl <;> simp [go_sem, ↓IntWalk.iteOmega, plz]
  have A11 : Blk w1 (w.heap.size + 1 + 1) 5 (plz (.int .u8 c) (.int .i64 (t)) (.int .i64 (x)) (.slice po pn pc) (.slice dq dn dc)) := by
    rw [hw1]
    refine ⟨by (simp <;> omega), fun i hi => ?_, fun i hi => by simp [go_sem, ↓IntWalk.iteOmega]⟩
    rcases (by omega : i = 0 ∨ i = 1 ∨ i = 2 ∨ i = 3 ∨ i = 4) with rfl | rfl | rfl | rfl | rfl <;> simp [go_sem, ↓IntWalk.iteOmega, plz]
  have A5 : Blk w1 w.heap.size 5 (plz (.int .u8 c) (.int .i64 (t)) (.int .i64 (x)) (.slice po pn pc) (.slice dq dn dc)) := by
    rw [hw1]
    refine ⟨by (simp <;> omega), fun i hi => ?_, fun i hi => by simp [go_sem, ↓IntWalk.iteOmega]⟩
    rcases (by omega : i = 0 ∨ i = 1 ∨ i = 2 ∨ i = 3 ∨ i = 4) with rfl | rfl | rfl | rfl | rfl <;> simp [go_sem, ↓IntWalk.iteOmega, plz]
  clear hw1
  refine wpl_cpy rfl _ _ rfl lab (.slice po pn pc) path rfl rfl (HP.out.keptL (A := fun _ => False) (KeptL.of_below b1) (fun _ h => h.elim)) (by rw [HPN.out]; omega) ?_
  intro pv1 w2 hO1 hB1
  obtain ⟨po1, pc1, hpv1⟩ := hO1.val HPN.out
  subst hpv1
  rw [hs1] at hO1 hB1
  have B5 := A5.of_block (w' := w2) (by have := hB1.size; omega) (hB1.block _ (by omega))
  have B10 := A10.of_block (w' := w2) (by have := hB1.size; omega) (hB1.block _ (by omega))
  have B11 := A11.of_block (w' := w2) (by have := hB1.size; omega) (hB1.block _ (by omega))
  have b2 : Below w.heap.size w w2 := b1.trans (hB1.mono (by omega))
  have k11_2 : w2.cell? ⟨w.heap.size + 1 + 1, 2, none⟩ = some (.slice po pn pc) := B11.is 2 (by omega)
  have z11 : w2.frozen? ⟨w.heap.size + 1 + 1, 2, none⟩ = false := B11.fz 2 (by omega)
  have hl11 := B11.lt
  have k5_3 : w2.cell? ⟨w.heap.size, 3, none⟩ = some (.slice dq dn dc) := B5.is 3 (by omega)
  have hl5 := B5.lt
  have KK := hid (And.intro B10 (And.intro B11 (And.intro b2 hO1)))
  clear A5 A10 A11 B5 B10 B11 b1 hs1 hB1 b2 hO1
  go_wp2_with (first | (at_builtin; refine hold ?_))
  unfold Hid
  refine wpl_nm fun w3 hw3 => ?_
  obtain ⟨B10, B11, b2, hO1⟩ := KK.out
  clear KK
  have C10 : Blk w3 (w.heap.size + 1) 5 (plz (.int .u8 0) (.int .i64 (0)) (.int .i64 (0)) (.slice none 0 0) (.slice none 0 0)) := by
    rw [hw3]
    exact B10.of_block (by simp) (Below.heap_setCell _ _ _ _ (by simp <;> omega))
  have C11 : Blk w3 (w.heap.size + 1 + 1) 5 (plz (.int .u8 c) (.int .i64 (t)) (.int .i64 (x)) (.slice po1 pn pc1) (.slice dq dn dc)) := by
    rw [hw3]
    refine (B11.set 2 (.slice po1 pn pc1) (by omega)).congr (fun i hi => ?_)
    rcases (by omega : i = 0 ∨ i = 1 ∨ i = 2 ∨ i = 3 ∨ i = 4) with rfl | rfl | rfl | rfl | rfl <;> rfl
  have b3 : Below w.heap.size w w3 := by
    rw [hw3]
    exact Below.setCell b2 (by simp only []; omega) _
  have O1 : Ow w3 (w.heap.size + 3) (.slice po1 pn pc1) path := by
    rw [hw3]
    exact hO1.set (by omega)
  have hs3 : w.heap.size + 3 ≤ w3.heap.size := by
    have := C11.lt
    omega
  clear hw3 B10 B11 b2 hO1 k11_2 z11 hl11 k5_3 hl5
  refine wpl_cpy rfl _ _ rfl lab (.slice dq dn dc) done rfl rfl (HD.out.keptL (A := fun _ => False) (KeptL.of_below b3) (fun _ h => h.elim)) (by rw [HDN.out]; omega) ?_
  intro dv1 w4 hO2 hB2
  obtain ⟨dq1, dc1, hdv1⟩ := hO2.val HDN.out
  subst hdv1
  have D10 := C10.below hB2
  have D11 := C11.below hB2
  have b4 : Below w.heap.size w w4 := b3.trans (hB2.mono b3.size)
  have O2 := O1.below hB2
  have hne : ∀ g, (Value.slice po1 pn pc1).ownBlock = some g → (Value.slice dq1 dn dc1).ownBlock ≠ some g := fun g h1 h2 => by
    have h3 := (O1.lt h1).2
    have h4 := (hO2.lt h2).1
    omega
  have hO2 := hO2.low hs3
  have k11_3 : w4.cell? ⟨w.heap.size + 1 + 1, 3, none⟩ = some (.slice dq dn dc) := D11.is 3 (by omega)
  have z11 : w4.frozen? ⟨w.heap.size + 1 + 1, 3, none⟩ = false := D11.fz 3 (by omega)
  have hl11 := D11.lt
  have KK := hid (And.intro D10 (And.intro D11 (And.intro b4 (And.intro O2 hO2))))
  clear C10 C11 b3 O1 hs3 hB2 D10 D11 b4 O2 hO2
  go_wp2_with (first | (go_at_call 73; refine hold ?_))
  unfold Hid
  refine calls_nm fun w5 hw5 => ?_
  have HS : Hid (S43 w w5 c t x (.slice po1 pn pc1) (.slice dq1 dn dc1) path done) := by
    obtain ⟨D10, D11, b4, O2, hO2⟩ := KK.out
    unfold Hid
    rw [hw5]
    refine ⟨Below.setCell b4 (by simp only []; omega) _, ⟨_, D10.of_block (by simp) (Below.heap_setCell _ _ _ _ (by simp <;> omega))⟩, (D11.set 3 (.slice dq1 dn dc1) (by omega)).congr (fun i hi => ?_), O2.set (by omega), hO2.set (by omega), hne⟩
    rcases (by omega : i = 0 ∨ i = 1 ∨ i = 2 ∨ i = 3 ∨ i = 4) with rfl | rfl | rfl | rfl | rfl <;> rfl
  clear hw5 KK k11_3 z11 hl11 hne
  have AB : Hid (∀ (y : Nat) (w' : World), y ≤ 4611686018427387904 → Calls Try.prog 73 #[.int .i64 (y)] w' fun e w'' => e = .returned (.int .i64 (y)) ∧ w'' = w') := fun y w' hy => abs_any y w' hy
  refine (AB.out _ _ (by omega)).mono ?_
  rintro e w6 ⟨rfl, hw6⟩
  obtain rfl := hw6.symm
  obtain ⟨g, pc2, hgv, hgc, hgb, hgl, hgi, hgf⟩ := HS.out.p.see (by rw [HPN.out]; omega)
  rw [HPN.out] at hgv hgc hgi
  simp only [Value.slice.injEq, true_and] at hgv
  obtain ⟨rfl, rfl⟩ := hgv
  obtain ⟨f10, hf10⟩ := HS.out.b10
  have e10_0 := hf10.is 0 (by omega)
  have e10_1 := hf10.is 1 (by omega)
  have e10_2 := hf10.is 2 (by omega)
  have e10_3 := hf10.is 3 (by omega)
  have e10_4 := hf10.is 4 (by omega)
  have y10_0 := hf10.fz 0 (by omega)
  have y10_1 := hf10.fz 1 (by omega)
  have y10_2 := hf10.fz 2 (by omega)
  have y10_3 := hf10.fz 3 (by omega)
  have y10_4 := hf10.fz 4 (by omega)
  have hl10 := hf10.lt
  have e11_0 := HS.out.b11.is 0 (by omega)
  have e11_1 := HS.out.b11.is 1 (by omega)
  have e11_2 := HS.out.b11.is 2 (by omega)
  have e11_3 := HS.out.b11.is 3 (by omega)
  have e11_4 := HS.out.b11.is 4 (by omega)
  have y11_1 := HS.out.b11.fz 1 (by omega)
  have y11_2 := HS.out.b11.fz 2 (by omega)
  have y11_3 := HS.out.b11.fz 3 (by omega)
  have hl11 := HS.out.b11.lt
  simp only [plz] at e11_0 e11_1 e11_2 e11_3 e11_4
  clear hf10
  have dp0 : ((pn : Int) == 0) = false := by simp; omega
  obtain ⟨pm, hpm⟩ : ∃ y, pn = y + 1 := ⟨pn - 1, by omega⟩
  have fw2 : (pn : Int) - 1 = (pm : Int) := by omega
  have fw3 : IntKind.i64.wrap ((pn : Int) - 1) = (pm : Int) := by simp [IntKind.wrap, IntKind.bits, IntKind.signed]; omega
  have fw4 : (0 : Int) ≤ (pm : Int) := by omega
  have fw6 : IntKind.i64.wrap (pm : Int) = (pm : Int) := by simp [IntKind.wrap, IntKind.bits, IntKind.signed]; omega
  have fw5 : (pm : Int) < (pn : Int) := by omega
  have gi := hgi pm (by omega)
  have gf := hgf pm
  obtain ⟨ly, hly⟩ : ∃ y, path.getD pm 0 = y := ⟨_, rfl⟩
  rw [hly] at gi
  have dix : decide (pm < pn) = true := by simp; omega
  have HL : Hid ((path ++ [ly]).length = pn + 1) := by unfold Hid; simp [HPN.out]
  have HX : Hid ((t - 1 ≤ t ∧ t ≤ t + 1) ∧ (path ++ [ly]).length ≤ pn + 1 ∧ (∀ y, y ∈ path ++ [ly] → I64 y) ∧ done.length ≤ dn ∧ (∀ y, y ∈ done → -B - 2 ≤ y ∧ y ≤ B + 2)) := ⟨by omega, by rw [HL.out]; omega, fun y hy => by
    rcases List.mem_append.1 hy with h | h
    · exact HPI.out y h
    · simp at h
      subst h
      rw [← hly]
      have hlt : pm < path.length := by rw [HPN.out]; omega
      rw [List.getD_eq_getElem?_getD, List.getElem?_eq_getElem hlt]
      exact HPI.out _ (List.getElem_mem hlt), by rw [HDN.out]; omega, fun y hy => by have := HDB.out y hy; omega⟩
  have hs3 : w.heap.size + 3 ≤ w5.heap.size := by omega
  have HLY : Hid (path.getD pm 0 = ly) := hly
  have HPL : Hid (pm < path.length) := by unfold Hid; rw [HPN.out]; omega
  clear hgi hgf hly hpm
  go_wp2_with (first | (go_at_call 73; with_reducible refine (AB2.out _).mono ?_; rintro e w6 ⟨rfl, hw6⟩; obtain rfl := hw6.symm) | (go_at_call 73; refine (AB.out _ _ (by omega)).mono ?_; rintro e w6 ⟨rfl, hw6⟩; obtain rfl := hw6.symm))
  refine wp_region_tree 13 (fun w' => w'.cell? ⟨w.heap.size + 1 + 1, 2, none⟩ = some (.slice (some ⟨g, 0, none⟩) pn pc1) ∧ w'.cell? ⟨g, pm, none⟩ = some (.int .i64 (ly))) (.q 0 false (.q 1 true (.q 2 false (.q 3 true (.q 4 false (.q 5 true (.q 6 false (.q 7 false (.q 8 false (.q 9 true (.one 10 true (.one 11 true (.q 12 false (.one 13 false .nil)))))))))))))) (by kernel_rfl) (by kernel_rfl) (by kernel_rfl) ?_ ?_
  · simp [go_sem, ↓IntWalk.iteOmega, *]
  repeat (first | (refine wpTr_qf (v := ?_) rfl rfl ?_ ?_; rotate_left; focus (intro w; go_simp; (try (with_reducible rfl)); done); try simp only [List.getElem_toArray, List.getElem_cons_zero, List.getElem_cons_succ, Act.put, List.setIfInBounds_toArray, List.set_cons_zero, List.set_cons_succ]) | (refine wpTr_qt (v := ?_) rfl rfl ?_ ?_; rotate_left; focus (intro w hSw; (try dsimp only at hSw); go_simp; (try (with_reducible rfl)); done); try simp only [List.getElem_toArray, List.getElem_cons_zero, List.getElem_cons_succ, Act.put, List.setIfInBounds_toArray, List.set_cons_zero, List.set_cons_succ]))
  refine wpTr_one rfl rfl (fun K hK => ?_)
  go_simp
  refine hK.out _ _ (fun _ => by simp [go_sem, ↓IntWalk.iteOmega, *]) ?_
  clear hK K
  refine wpTr_one rfl rfl (fun K hK => ?_)
  refine wp_oap2 _ _ rfl (w.heap.size + 3) g pn pc1 path rfl (HS.out.p.below (by (repeat (first | with_reducible exact Below.rf _ | with_reducible exact World.below_ext _ _ | with_reducible refine Below.ex ?_ _ | with_reducible refine Below.al ?_ _ | with_reducible refine Below.setCell ?_ (by simp) _ | with_reducible refine Below.drew ?_)))) (by simp <;> omega) _ _ _ [ly] rfl rfl ?_ ⟨by rw [HPN.out]; omega, by omega⟩ (by rw [HPN.out]; omega) (by omega) ?_
  · intro j y hj
    cases j with
    | zero =>
      simp at hj
      subst hj
      simp [go_sem, ↓IntWalk.iteOmega]
    | succ j => simp at hj
  intro v6 w6 hO6 hG6 hC6
  have hap := fun hb => HS.out.app hb hG6
  obtain ⟨b6, ⟨f6, hf6⟩, hb11, hod⟩ := hap (by (repeat (first | with_reducible exact Below.rf _ | with_reducible exact World.below_ext _ _ | with_reducible refine Below.ex ?_ _ | with_reducible refine Below.al ?_ _ | with_reducible refine Below.setCell ?_ (by simp) _ | with_reducible refine Below.drew ?_)))
  have k62 : w6.cell? ⟨w.heap.size + 1 + 1, 2, none⟩ = some (.slice (some ⟨g, 0, none⟩) pn pc1) := hb11.is 2 (by omega)
  have k6g : w6.cell? ⟨g, pm, none⟩ = some (.int .i64 (ly)) := by rw [← HLY.out]; exact hC6 pm HPL.out
  obtain ⟨ao6, c6, hv6⟩ := hO6.val HL.out
  subst hv6
  refine hK.out _ _ (fun _ => ⟨k62, k6g⟩) ?_
  clear hK K hap hG6 hC6
  clear e10_0 e10_1 e10_2 e10_3 e10_4 y10_0 y10_1 y10_2 y10_3 y10_4 hl10 e11_0 e11_1 e11_2 e11_3 e11_4 y11_1 y11_2 y11_3 hl11
  have e10_0 := hf6.is 0 (by omega)
  have e10_1 := hf6.is 1 (by omega)
  have e10_2 := hf6.is 2 (by omega)
  have e10_3 := hf6.is 3 (by omega)
  have e10_4 := hf6.is 4 (by omega)
  have y10_0 := hf6.fz 0 (by omega)
  have y10_1 := hf6.fz 1 (by omega)
  have y10_2 := hf6.fz 2 (by omega)
  have y10_3 := hf6.fz 3 (by omega)
  have y10_4 := hf6.fz 4 (by omega)
  have hl10 := hf6.lt
  have e11_0 := hb11.is 0 (by omega)
  have e11_1 := hb11.is 1 (by omega)
  have e11_2 := hb11.is 2 (by omega)
  have e11_3 := hb11.is 3 (by omega)
  have e11_4 := hb11.is 4 (by omega)
  have y11_2 := hb11.fz 2 (by omega)
  have hl11 := hb11.lt
  simp only [plz] at e11_0 e11_1 e11_2 e11_3 e11_4
  have HB6 := hid b6
  have HO6 := hid hO6
  have HOD := hid hod
  clear hf6 hb11 b6 hO6 hod k62 k6g
  repeat (first | (refine wpTr_qf (v := ?_) rfl rfl ?_ ?_; rotate_left; focus (intro w; go_simp; (try (with_reducible rfl)); done); try simp only [List.getElem_toArray, List.getElem_cons_zero, List.getElem_cons_succ, Act.put, List.setIfInBounds_toArray, List.set_cons_zero, List.set_cons_succ]) | (refine wpTr_qt (v := ?_) rfl rfl ?_ ?_; rotate_left; focus (intro w hSw; (try dsimp only at hSw); go_simp; (try (with_reducible rfl)); done); try simp only [List.getElem_toArray, List.getElem_cons_zero, List.getElem_cons_succ, Act.put, List.setIfInBounds_toArray, List.set_cons_zero, List.set_cons_succ]))
  refine wpTr_one rfl rfl (fun K hK => ?_)
  go_simp
  refine hK.out _ _ (fun h => by cases h) ?_
  clear hK K
  refine wpTr_nil ?_
  refine NoPanic.normal ?_
  go_wp2
  refine bodyPost_ret (v := .agg #[.int .u8 (c), .int .i64 (t), .slice ao6 (pn + 1) c6, .slice dq1 dn dc1, .int .i64 (x)]) (by simp [results, Try.results43, go_sem, ↓IntWalk.iteOmega, *]) rfl ?_
  refine ⟨t, .slice ao6 (pn + 1) c6, .slice dq1 dn dc1, path ++ [ly], done, rfl, ?_, ?_, ?_, HX.out⟩
  · skip
    iterate 5 refine Below.setCell ?_ (by simp only []; omega) _
    exact Below.setCell HB6.out (by simp only []; omega) _
  · refine Ow.low (base := w.heap.size + 3) ?_ (by omega)
    skip
    iterate 5 refine Ow.set ?_ (by omega)
    exact HO6.out.set (by omega)
  · refine Ow.low (base := w.heap.size + 3) ?_ (by omega)
    skip
    iterate 5 refine Ow.set ?_ (by omega)
    exact HOD.out.set (by omega)
--END 2
theorem tamper_any (c t x B : Int) (pv dv : Value) (path done : List Int) (cells how wh wt : Nat) (lab : Nat → Nat) (w : World) (hp : Ints w lab pv path) (hd : Ints w lab dv done) (hpl : 1 ≤ path.length ∧ path.length ≤ 1000) (hdl : done.length ≤ 1000) (ht : -4000000000 ≤ t ∧ t ≤ 4000000000) (hB : 0 ≤ B ∧ B ≤ 4000000000) (hdb : ∀ y, y ∈ done → -B ≤ y ∧ y ≤ B) (hce : cells ≤ 1000) (hwh : wh ≤ 4611686018427387904) (hwt : wt ≤ 4611686018427387904) (hhow : how < 6) :
    Calls Try.prog 43 #[.agg #[.int .u8 (c), .int .i64 (t), pv, dv, .int .i64 (x)], .int .i64 (cells), .int .i64 (how), .int .i64 (wh), .int .i64 (wt)] w (tamPost c t x B path.length done.length w) := by
  rcases (by omega : how = 0 ∨ how = 1 ∨ how = 2 ∨ how = 3 ∨ how = 4 ∨ how = 5) with rfl | rfl | rfl | rfl | rfl | rfl
  · exact tam0 c t x B pv dv path done cells wh wt lab w hp hd hpl hdl ht hB hdb hce hwh hwt
  · exact tam1 c t x B pv dv path done cells wh wt lab w hp hd hpl hdl ht hB hdb hce hwh hwt
  · exact tam2 c t x B pv dv path done cells wh wt lab w hp hd hpl hdl ht hB hdb hce hwh hwt
  · exact tam3 c t x B pv dv path done cells wh wt lab w hp hd hpl hdl ht hB hdb hce hwh hwt
  · exact tam4 c t x B pv dv path done cells wh wt lab w hp hd hpl hdl ht hB hdb hce hwh hwt
  · exact tam5 c t x B pv dv path done cells wh wt lab w hp hd hpl hdl ht hB hdb hce hwh hwt
end Go.Proofs.Qxb6500716a
