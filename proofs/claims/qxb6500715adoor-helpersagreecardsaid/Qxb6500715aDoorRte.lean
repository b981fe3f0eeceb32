/-
  AppendRoute and Route: the walk.
-/
import Derived.Test.Qxb6500715aDoorTurn
namespace Go.Proofs.Qxb6500715aDoor
open Go.RowKit
set_option linter.unusedSimpArgs false
set_option linter.unusedVariables false


theorem ids_cell {w : World} {F : FP} (h : FlN w F) {r q : Nat} (hd : F.drv r q) : r * F.W + q < F.L ∧ w.cell? ⟨F.ib, r * F.W + q, none⟩ = some (.int .i64 (F.id (r * F.W + q))) := by
  have hlt : r * F.W + q < F.L := by
    have h1 := Nat.mul_le_mul_right F.W (show r + 1 ≤ F.S + 4 by have := hd.1; omega)
    rw [Nat.add_mul, Nat.one_mul, Nat.mul_comm (F.S + 4), ← h.hL] at h1
    have := hd.2.1
    omega
  have := h.num.ids _ hlt
  rw [if_pos hd.2.2] at this
  exact ⟨hlt, this⟩

theorem pos_neq (a b c d : Int) (h : ¬ (a = c ∧ b = d)) (w : World) : (binOp .neq 63 (.agg #[.int .i64 (a), .int .i64 (b)]) (.agg #[.int .i64 (c), .int .i64 (d)])).run Tryd.prog w = .ok (.bool true) w := by
  by_cases h1 : a = c
  · have h2 : b ≠ d := fun e => h ⟨h1, e⟩
    have e2 : (b == d) = false := by simpa using h2
    subst h1
    simp [go_sem, e2]
  · have e2 : (a == c) = false := by simpa using h1
    simp [go_sem, e2]

/-- The walk's memory. -/
structure RtAt (wb wr : World) (g cap B Bat : Nat) (U : List (Nat × Nat)) (T : List Nat) (r q : Nat) : Prop where
  pg : Pad wr g cap (idRow T)
  pB : Pad wr B 10 (prow U)
  pa : Pad wr Bat 2 [.int .i64 (r), .int .i64 (q)]
  below : Below wb.heap.size wb wr

section
variable {wb wr w' : World} {g cap B Bat : Nat} {U : List (Nat × Nat)} {T : List Nat} {r q : Nat}
theorem RtAt.ext (h : RtAt wb wr g cap B Bat U T r q) (hb : Below wr.heap.size wr w') : RtAt wb w' g cap B Bat U T r q :=
  ⟨h.pg.below hb, h.pB.below hb, h.pa.below hb, h.below.trans (hb.mono h.below.size)⟩
theorem Pad.set2 {w : World} {x y : Value} (h : Pad w Bat 2 [x, y]) (x' y' : Value) : Pad ((w.setCell ⟨Bat, 0, none⟩ x').setCell ⟨Bat, 1, none⟩ y') Bat 2 [x', y'] := by
  have h0 : Pad w Bat 2 [] := ⟨h.lt, h.has, h.fz, fun j u hu => by simp at hu, by simp⟩
  exact h0.push [x', y'] (by simp)
theorem RtAt.move (h : RtAt wb wr g cap B Bat U T r q) (r' q' : Nat) (h1 : g ≠ Bat) (h2 : B ≠ Bat) (h3 : wb.heap.size ≤ Bat) : RtAt wb ((wr.setCell ⟨Bat, 0, none⟩ (.int .i64 (r'))).setCell ⟨Bat, 1, none⟩ (.int .i64 (q'))) g cap B Bat U T r' q' := by
  have hk : KeptBut Bat wr ((wr.setCell ⟨Bat, 0, none⟩ (.int .i64 (r'))).setCell ⟨Bat, 1, none⟩ (.int .i64 (q'))) := ((KeptBut.refl Bat wr).set (Or.inl rfl) _).set (Or.inl rfl) _
  exact ⟨h.pg.kept hk h1, h.pB.kept hk h2, Pad.set2 h.pa _ _, KeptBut.below_of h.below hk h3⟩
theorem RtAt.push (h : RtAt wb wr g cap B Bat U T r q) {c : Nat} (hp : Pad w' g cap (idRow T ++ [.int .i64 (c)])) (hk : KeptBut g wr w') (h1 : B ≠ g) (h2 : Bat ≠ g) (h3 : wb.heap.size ≤ g) : RtAt wb w' g cap B Bat U (T ++ [c]) r q :=
  ⟨by unfold idRow at *; rw [List.map_append]; exact hp, h.pB.kept hk h1, h.pa.kept hk h2, KeptBut.below_of h.below hk h3⟩
end

theorem prow_at (U : List (Nat × Nat)) (k : Nat) (t : Nat × Nat) (h : U[k]? = some t) : (prow U)[2 * k]? = some (.int .i64 (t.1)) ∧ (prow U)[2 * k + 1]? = some (.int .i64 (t.2)) := by
  induction U generalizing k with
  | nil => simp at h
  | cons p U ih =>
    cases k with
    | zero => simp at h; subst h; exact ⟨rfl, rfl⟩
    | succ k =>
      have := ih k (by simpa using h)
      rw [show 2 * (k + 1) = 2 * k + 2 by omega, show 2 * k + 2 + 1 = 2 * k + 1 + 2 by omega]
      exact this

/-- What AppendRoute hands back. -/
def arPost (F : FP) (a b g cap : Nat) (wb : World) (e : Ending) (w' : World) : Prop :=
  e = .returned (.tuple #[.slice (some ⟨g, 0, none⟩) cap cap, .bool true]) ∧ Pad w' g cap (idRow (F.rte a b)) ∧ Below wb.heap.size wb w'

set_option maxRecDepth 20000 in
set_option maxHeartbeats 2000000 in
theorem appendRoute_any (F : FP) (a b g cap : Nat) (wb w : World) (hF : FlN wb F) (hBw : Below wb.heap.size wb w) (hg : wb.heap.size ≤ g) (hpad : Pad w g cap (idRow [a])) (hcap : cap = F.dst a b + 1) (hc4 : cap ≤ 400) (ha : a < F.N) (hb : b < F.N) :
    Calls Tryd.prog 56 #[.pointer (some ⟨F.fb, 0, none⟩), .slice (some ⟨g, 0, none⟩) 1 cap, .int .i64 (b)] w (arPost F a b g cap wb) := by
  have HF := hid hF
  have HBW := hid hBw
  have HPAD := hid hpad
  have hglt := hpad.lt
  have hp := hF.pln
  have h : FlN w F := hF.below hBw
  have HH := hid h
  have c0 := hpad.is 0 _ rfl
  have hrs := rte_spec hp ha hb
  have i11 := h.num.i11
  have hqc := h.num.qc
  have hql := h.num.lt.2.1
  have hfb := h.hdr.hfb
  have p0 := h.num.pos0 a ha
  have p1 := h.num.pos1 a ha
  rw [Nat.zero_add] at p0 p1
  rw [show plc (fun t => drv (F.kd t)) F.L a / F.W = F.row a from rfl] at p0
  rw [show plc (fun t => drv (F.kd t)) F.L a % F.W = F.col a from rfl] at p1
  have HRS := hid hrs
  have HC := hid hcap
  have hwb := hBw.size
  have hcap1 : 1 ≤ cap := by omega
  generalize hra : F.row a = ra at *
  generalize hqa : F.col a = qa at *
  have HRA := hid hra
  have HQA := hid hqa
  clear hF hBw hpad h hcap hrs hra hqa
  go_enter Tryd.func56, Tryd.ntmps56
  go_wp2_with (first | (go_at_call 50; (first | with_reducible refine (valid_yes F a _ HH.out ha).mono ?_ | with_reducible refine (valid_yes F b _ HH.out hb).mono ?_); rintro e w ⟨rfl, rfl⟩) | (go_at_call 97; refine hold ?_))
  unfold Hid
  refine (turns_any F a b w.heap.size wb _ HF.out (HBW.out.trans (Below.mono (by (repeat (first | with_reducible exact Below.rf _ | with_reducible exact World.below_ext _ _ | with_reducible refine Below.ex ?_ _ | with_reducible refine Below.al ?_ _ | with_reducible refine Below.setCell ?_ (by simp) _ | with_reducible refine Below.drew ?_))) hwb)) hwb ?_ ha hb).mono ?_
  · refine ⟨by simp; omega, fun j hj => ?_, fun j hj => ?_, fun j u hu => by simp at hu, by simp⟩
    · rcases (by omega : j = 0 ∨ j = 1 ∨ j = 2 ∨ j = 3 ∨ j = 4 ∨ j = 5 ∨ j = 6 ∨ j = 7 ∨ j = 8 ∨ j = 9) with rfl | rfl | rfl | rfl | rfl | rfl | rfl | rfl | rfl | rfl <;> simp [go_sem, ↓IntWalk.iteOmega]
    · simp [go_sem, ↓IntWalk.iteOmega]
  rintro e w1 ⟨rfl, hpB, hk⟩
  have hl5 := trn_len F a b
  have hat : RtAt wb w1 g cap w.heap.size (w.heap.size + 1) (F.trn a b) [a] ra qa := by
    refine ⟨?_, hpB, ?_, ?_⟩
    · refine Pad.kept (HPAD.out.below ?_) hk (by omega)
      (repeat (first | with_reducible exact Below.rf _ | with_reducible exact World.below_ext _ _ | with_reducible refine Below.ex ?_ _ | with_reducible refine Below.al ?_ _ | with_reducible refine Below.setCell ?_ (by simp) _ | with_reducible refine Below.drew ?_))
    · refine Pad.kept (w := World.alloc _ (.cells #[.int .i64 (ra), .int .i64 (qa)] 63)) ?_ hk (by omega)
      refine ⟨by simp, fun j hj => ?_, fun j hj => ?_, fun j u hu => ?_, by simp⟩
      · rcases (by omega : j = 0 ∨ j = 1) with rfl | rfl <;> simp [go_sem, ↓IntWalk.iteOmega]
      · simp [go_sem, ↓IntWalk.iteOmega]
      · have := (List.getElem?_eq_some_iff.1 hu).1
        rcases (by simp at this; omega : j = 0 ∨ j = 1) with rfl | rfl <;> simp at hu <;> subst hu <;> simp [go_sem, ↓IntWalk.iteOmega]
    · refine KeptBut.below_of (HBW.out.trans (Below.mono (by (repeat (first | with_reducible exact Below.rf _ | with_reducible exact World.below_ext _ _ | with_reducible refine Below.ex ?_ _ | with_reducible refine Below.al ?_ _ | with_reducible refine Below.setCell ?_ (by simp) _ | with_reducible refine Below.drew ?_))) hwb)) hk hwb
  have HAT := hid hat
  obtain ⟨B, hBe⟩ : ∃ B, w.heap.size = B := ⟨_, rfl⟩
  rw [hBe] at HAT hglt hwb ⊢
  obtain ⟨Ba, hBa⟩ : ∃ Ba, B + 1 = Ba := ⟨_, rfl⟩
  rw [hBa] at HAT ⊢
  have hne : g ≠ B ∧ g ≠ Ba ∧ B ≠ Ba ∧ wb.heap.size ≤ Ba := by omega
  obtain ⟨hTr, hXl⟩ := HRS.out
  have hch := trn_spec hp ha hb
  have hd0 := cell_drv hp ha
  rw [HRA.out, HQA.out] at hch hd0
  have hX0 : [a] ++ (legs ra qa (F.trn a b)).map F.idp = F.rte a b := by unfold FP.rte; rw [HRA.out, HQA.out]; rfl
  rw [← HC.out] at hXl
  have HX0 := hid hX0
  have HCH := hid hch.1
  generalize F.trn a b = U at *
  obtain ⟨X, hXe⟩ : ∃ X, F.rte a b = X := ⟨_, rfl⟩
  rw [hXe] at hXl HX0
  have HXE := hid hXe
  obtain ⟨m, hm⟩ : ∃ m, U.length = m := ⟨_, rfl⟩
  rw [hm] at hl5 ⊢
  have HM := hid hm
  have HXL := hid hXl
  clear hat hpB hk hBe hBa hTr hch hX0 hm hXl hXe HRS c0 i11 hqc hql hfb p0 p1
  go_wp2
  go_loopw [1, 47] (fun v x wr => ∃ (k : Nat) (T : List Nat) (r q : Nat), v = .slice (some ⟨g, 0, none⟩) T.length cap ∧ x = .int .i64 (k) ∧ k ≤ m ∧ T ++ (legs r q (U.drop k)).map F.idp = X ∧ F.chn r q (U.drop k) ∧ F.drv r q ∧ RtAt wb wr g cap B Ba U T r q) (fun _ x _ => m - (intOf x).toNat)
  case atStart => exact ⟨0, [a], ra, qa, rfl, rfl, Nat.zero_le _, HX0.out, HCH.out, hd0, HAT.out⟩
  case round =>
    clear HAT HX0 HCH hd0 HH HPAD
    obtain ⟨k, T, r, q, rfl, rfl, hk, hX, hch, hdr, hR⟩ := hrel
    have HX := hid hX
    have HCH := hid hch
    have HDR := hid hdr
    have HR := hid hR
    obtain ⟨n, hn⟩ : ∃ n, T.length = n := ⟨_, rfl⟩
    have HN := hid hn
    have hncap : n ≤ cap := by rw [← HXL.out, ← hX, ← hn]; simp
    rw [hn]
    by_cases hlt : k < m
    · have hkU : k < U.length := by rw [HM.out]; exact hlt
      have htk : U[k]? = some U[k] := List.getElem?_eq_getElem hkU
      have hdk : U.drop k = U[k] :: U.drop (k + 1) := List.drop_eq_getElem_cons hkU
      generalize U[k] = t at *
      obtain ⟨t1, t2⟩ := t
      rw [hdk] at hX hch
      obtain ⟨e1, e2⟩ := prow_at U k _ htk
      have b1 := hR.pB.is _ _ e1
      have b2 := hR.pB.is _ _ e2
      rw [show 2 * k = k * 2 by omega] at b1 b2
      have hBl := hR.pB.lt
      have hBal := hR.pa.lt
      have bk : decide ((k : Int) < m) = true := by simp; omega
      have HX1 := hid hX
      have HCH1 := hid hch
      clear hX hch hdr hR hn hdk e1 e2
      go_wp2
      have hglt2 := HR.out.pg.lt
      have hBt : wr.heap.size ≠ g ∧ wr.heap.size ≠ B ∧ wr.heap.size ≠ Ba ∧ wb.heap.size ≤ wr.heap.size := ⟨by omega, by omega, by omega, HR.out.below.size⟩
      obtain ⟨Bt, hBte⟩ : ∃ x, wr.heap.size = x := ⟨_, rfl⟩
      rw [hBte] at hBt ⊢
      have HBT := hid hBte
      clear hBte
      go_loopw [1] (fun v w2 => ∃ (T : List Nat) (r q : Nat), v = .slice (some ⟨g, 0, none⟩) T.length cap ∧ T ++ (leg (dm r q t1 t2) r q t1 t2 ++ legs t1 t2 (U.drop (k + 1))).map F.idp = X ∧ F.clr r q t1 t2 ∧ F.drv r q ∧ RtAt wb w2 g cap B Ba U T r q ∧ w2.cell? ⟨Bt, 0, none⟩ = some (.int .i64 (t1)) ∧ w2.cell? ⟨Bt, 1, none⟩ = some (.int .i64 (t2)) ∧ Bt < w2.heap.size) (fun v _ => cap - slLen v)
      case atStart =>
        refine ⟨T, r, q, by rw [HN.out], HX1.out, HCH1.out.1, HDR.out, HR.out.ext (by (repeat (first | with_reducible exact Below.rf _ | with_reducible exact World.below_ext _ _ | with_reducible refine Below.ex ?_ _ | with_reducible refine Below.al ?_ _ | with_reducible refine Below.setCell ?_ (by simp) _ | with_reducible refine Below.drew ?_))), ?_, ?_, ?_⟩ <;> rw [← HBT.out] <;> simp [go_sem, ↓IntWalk.iteOmega]
      case round =>
        have HTL := hid HCH1.out.2
        clear HX HX1 HR HDR HCH HCH1 HN hncap b1 b2 hBl hBal hglt2 HBT
        obtain ⟨T2, r2, q2, rfl, hX, hcl, hdr, hR, ct1, ct2, hBtl⟩ := hrel
        have hn2 : T2.length + dm r2 q2 t1 t2 ≤ cap := by
          have := congrArg List.length hX
          rw [HXL.out] at this
          simp [leg_len] at this
          omega
        obtain ⟨n2, hn2e⟩ : ∃ n, T2.length = n := ⟨_, rfl⟩
        rw [hn2e] at hn2 ⊢
        have HN2 := hid hn2e
        have a0 := hR.pa.is 0 _ rfl
        have a1 := hR.pa.is 1 _ rfl
        have f0 := hR.pa.fz 0 (by omega)
        have f1 := hR.pa.fz 1 (by omega)
        have hal := hR.pa.lt
        have hgl := hR.pg.lt
        have HX2 := hid hX
        have HR2 := hid hR
        have hp2 := hdr
        have hrb := hdr.1
        have hqb := hdr.2.1
        have HCL := hid hcl
        have HDR2 := hid hdr
        obtain ⟨u1, u2, -⟩ := clr_lt hcl hp
        by_cases hat : r2 = t1 ∧ q2 = t2
        · obtain ⟨rfl, rfl⟩ := hat
          clear hX hcl hdr hR hn2e
          go_wp2
          go_roundw
          case rel =>
            refine ⟨k + 1, T2, r2, q2, by rw [HN2.out], by go_num, by omega, ?_, HTL.out, HDR2.out, HR2.out⟩
            have := HX2.out
            rw [dm_self] at this
            exact this
          case measure => simp [intOf]; omega
        · obtain ⟨s1, s2, s3, s4⟩ := clr_step hp hcl hdr hat
          have hlg : leg (dm r2 q2 t1 t2) r2 q2 t1 t2 = tow r2 q2 t1 t2 :: leg (dm (tow r2 q2 t1 t2).1 (tow r2 q2 t1 t2).2 t1 t2) (tow r2 q2 t1 t2).1 (tow r2 q2 t1 t2).2 t1 t2 := by rw [← s3]; rfl
          obtain ⟨r3, q3, htw⟩ : ∃ r3 q3, tow r2 q2 t1 t2 = (r3, q3) := ⟨_, _, rfl⟩
          rw [htw] at s1 s2 s3 s4 hlg
          rw [hlg] at hX
          have HX3 := hid hX
          have HTW := hid htw
          have HS1 := hid s1
          have HS2 := hid s2
          have hr3 := s2.1
          have hq3 := s2.2.1
          have hS := hp.lay.hS
          have hFr : FlN wr F := HF.out.below hR.below
          have hWb := hFr.hWb
          simp only at s3 s4
          clear hX hcl hdr hR hn2e s1 s2 s4 hlg htw
          have hnq := pos_neq r2 q2 t1 t2 (by omega)
          go_wp2_with (go_at_call 98; refine (toward_any r2 q2 t1 t2 r3 q3 _ (by omega) (by omega) (by omega) (by omega) hat HTW.out).mono ?_; rintro e w' ⟨rfl, z, rfl⟩)
          have hR3 := (HR2.out.move r3 q3 hne.2.1 hne.2.2.1 hne.2.2.2).ext (World.below_ext _ z)
          have g1 : (((wr.setCell ⟨Ba, 0, none⟩ (.int .i64 (r3))).setCell ⟨Ba, 1, none⟩ (.int .i64 (q3))).ext z).cell? ⟨Bt, 0, none⟩ = some (.int .i64 (t1)) := by simp [go_sem, ↓IntWalk.iteOmega]; exact ct1
          have g2 : (((wr.setCell ⟨Ba, 0, none⟩ (.int .i64 (r3))).setCell ⟨Ba, 1, none⟩ (.int .i64 (q3))).ext z).cell? ⟨Bt, 1, none⟩ = some (.int .i64 (t2)) := by simp [go_sem, ↓IntWalk.iteOmega]; exact ct2
          have g3 : Bt < (((wr.setCell ⟨Ba, 0, none⟩ (.int .i64 (r3))).setCell ⟨Ba, 1, none⟩ (.int .i64 (q3))).ext z).heap.size := by simp; omega
          generalize World.ext (World.setCell (World.setCell wr _ _) _ _) z = X2 at *
          have hF3 : FlN X2 F := HF.out.below hR3.below
          have i10 := hF3.num.i10
          have hib := hF3.num.lt.1
          have hfb3 := hF3.hdr.hfb
          have h7 := hF3.hdr.h7
          obtain ⟨hlt3, did⟩ := ids_cell hF3 HS2.out
          have hLb := hF3.hLb
          obtain ⟨ix, hix⟩ : ∃ ix, r3 * F.W + q3 = ix := ⟨_, rfl⟩
          have e3 : (r3 : Int) * (F.W : Int) + (q3 : Int) = (ix : Int) := by rw [← hix]; push_cast; rfl
          have hm3 : r3 * F.W ≤ 384 := by omega
          have hm4 : (r3 : Int) * (F.W : Int) ≤ 384 := by exact_mod_cast hm3
          have hm5 : (0 : Int) ≤ (r3 : Int) * (F.W : Int) := by exact_mod_cast Nat.zero_le (r3 * F.W)
          rw [hix] at did hlt3
          have i0 : (0 : Int) ≤ ix := by omega
          have i1 : (ix : Int) < F.L := by omega
          obtain ⟨nid, hnid⟩ : ∃ nid, F.id ix = nid := ⟨_, rfl⟩
          rw [hnid] at did
          have HNID := hid (show F.idp (r3, q3) = nid by unfold FP.idp; rw [hix]; exact hnid)
          have a0' := hR3.pa.is 0 _ rfl
          have a1' := hR3.pa.is 1 _ rfl
          have hal3 := hR3.pa.lt
          have HR3 := hid hR3
          clear hR3 hF3 hFr ct1 ct2 hnq a0 a1 f0 f1 HR2 hBtl hix hnid HX2 hm3
          refine wp_region_mid 7 11 (fun w' => w'.cell? ⟨F.fb, 10, none⟩ = some (.slice (some ⟨F.ib, 0, none⟩) F.L F.L) ∧ w'.cell? ⟨Ba, 0, none⟩ = some (.int .i64 (r3)) ∧ w'.cell? ⟨Ba, 1, none⟩ = some (.int .i64 (q3))) (by kernel_rfl) (by kernel_rfl) (by kernel_rfl) (by kernel_rfl) (by kernel_rfl) (by kernel_rfl) ?_ ?_
          · simp [go_sem, ↓IntWalk.iteOmega, *]
          simp only [List.take_succ_cons, List.take_zero, List.drop_succ_cons, List.drop_zero]
          repeat (refine wpHeld_step (v := ?_) rfl ?_ ?_; rotate_left; focus (intro w hSw; (try dsimp only at hSw); go_simp; (try (with_reducible rfl)); done); try simp only [Act.put, List.setIfInBounds_toArray, List.set_cons_zero, List.set_cons_succ])
          refine wpHeld_nil ?_
          refine wpMid_stepK rfl (fun K hK => ?_)
          go_simp
          refine (index_any F.fb F.W r3 q3 X2.drew (by show F.fb < X2.heap.size; omega) h7 (by omega) (by omega)).mono ?_
          rintro e w5 ⟨rfl, z5, rfl⟩
          refine hK.out _ _ (by simp [go_sem, ↓IntWalk.iteOmega, *]) ?_
          clear hK K
          simp only [e3]
          refine wpMid_stepK rfl (fun K hK => ?_)
          go_simp
          refine hK.out _ _ (by simp [go_sem, ↓IntWalk.iteOmega, *]) ?_
          clear hK K
          refine wpMid_stepK rfl (fun K hK => ?_)
          go_simp
          refine hK.out _ _ (by simp [go_sem, ↓IntWalk.iteOmega, *]) ?_
          clear hK K
          refine wpMid_stepK rfl (fun K hK => ?_)
          go_simp
          refine hK.out _ _ (by simp [go_sem, ↓IntWalk.iteOmega, *]) ?_
          clear hK K
          refine wpMid_zero ?_
          have hil : (idRow T2).length = n2 := by simp [idRow, HN2.out]
          refine wp_pad rfl _ _ 31 rfl 28 (.int .i64 0) 1 8 Tryd.underlying31 (by kernel_rfl) g n2 cap cap (idRow T2) rfl (HR3.out.pg.below (by (repeat (first | with_reducible exact Below.rf _ | with_reducible exact World.below_ext _ _ | with_reducible refine Below.ex ?_ _ | with_reducible refine Below.al ?_ _ | with_reducible refine Below.setCell ?_ (by simp) _ | with_reducible refine Below.drew ?_)))) (by omega) _ 0 1 1 [.int .i64 (nid)] rfl rfl ?_ (by simp [Value.oneCell']) (by omega) (by omega) ?_
          · intro j u hj; simp [go_sem, ↓IntWalk.iteOmega]; simpa using hj
          intro w6 hp6 hk6 hs6
          have q1 := hk6.cell (k := Bt) 0 (by simp; omega) hBt.1
          have q2 := hk6.cell (k := Bt) 1 (by simp; omega) hBt.1
          simp [go_sem, ↓IntWalk.iteOmega] at q1 q2
          have hs6' : Bt < w6.heap.size := by rw [hs6]; simp; omega
          have hR6 := (HR3.out.ext (w' := (X2.ext z5).alloc (.cells #[.int .i64 (nid)] 28)) (by (repeat (first | with_reducible exact Below.rf _ | with_reducible exact World.below_ext _ _ | with_reducible refine Below.ex ?_ _ | with_reducible refine Below.al ?_ _ | with_reducible refine Below.setCell ?_ (by simp) _ | with_reducible refine Below.drew ?_)))).push hp6 hk6 (Ne.symm hne.1) (Ne.symm hne.2.1) hg
          have HR6 := hid hR6
          have G1 := hid (q1.trans g1)
          have G2 := hid (q2.trans g2)
          clear hp6 hk6 hs6 q1 q2 hR6 g1 g2
          go_wp2
          refine NoPanic.normal ?_
          go_wp2
          go_roundw
          case rel =>
            refine ⟨T2 ++ [nid], r3, q3, by simp [HN2.out], ?_, HS1.out, HS2.out, HR6.out, G1.out, G2.out, hs6'⟩
            have := HX3.out
            simp only [List.cons_append, List.map_cons, HNID.out] at this
            rw [List.append_assoc]; exact this
          case measure => simp [slLen]; omega
    · obtain rfl : k = m := by omega
      rw [List.drop_eq_nil_of_le (by rw [HM.out]; exact Nat.le_refl _)] at hX
      simp [legs] at hX
      have hTX : T = X := hX
      have hnc : n = cap := by rw [← hn, hTX, HXL.out]
      clear hX hch hdr hR hn
      go_wp2
      go_ret2
      refine ⟨by rw [hnc]; rfl, ?_, HR.out.below⟩
      rw [HXE.out, ← hTX]; exact HR.out.pg

/-- 'make([]T, 1, n)': the new row, under a name. -/
theorem make_one {P : Program} (t e : TypeId) (z : Value) (size bytes : Nat) (ht : P.underlying t = some (.slice e)) (hinfo : (P.info? e).map (fun i => (i.zero, i.size, i.bytes)) = some (some z, size, bytes))
    (n : Nat) (h1 : 1 ≤ n) (hb : bytes * n ≤ 281474976710656) (h63 : n ≤ 9223372036854775807) :
    ∃ Z : Array Value, Z.size = n * size ∧
      ∀ (kl kc : IntKind) (w : World), (Instr.makeSlice t (.int kl 1) (.int kc (n : Int))).run P w = .ok (.slice (some ⟨w.heap.size, 0, none⟩) 1 n) (w.alloc (.cells Z e)) := by
  obtain ⟨i, hi, hz0, hz1, hz2⟩ := info_parts hinfo
  refine ⟨madeCells z.cells (n * size), size_madeCells _ _, fun kl kc w => ?_⟩
  have hb' : (i.bytes : Int) * (n : Int) ≤ 281474976710656 := by
    have h : ((i.bytes * n : Nat) : Int) ≤ 281474976710656 := by rw [hz2]; omega
    rwa [Int.natCast_mul] at h
  have := run_make (P := P) w t e i z ht hi hz0 kl kc 1 n (by omega) (by omega) hb' (by omega)
  rw [Int.toNat_natCast, hz1] at this
  exact this

theorem Pad.made (w : World) (Z : Array Value) (e : TypeId) (k g : Nat) (vs : List Value) (hg : g = w.heap.size) (hk : Z.size = k) (hl : vs.length ≤ k) (hv : ∀ (j : Nat) u, vs[j]? = some u → Z[j]? = some u) : Pad (w.alloc (.cells Z e)) g k vs := by
  subst hg
  have hb : (w.alloc (.cells Z e)).heap[w.heap.size]? = some (.cells Z e) := heap_alloc_new w _
  refine ⟨by simp, fun j hj => ?_, fun j hj => ?_, fun j u hu => ?_, hl⟩
  · rw [cell_of_row _ _ j Z e (0, 0) hb, Array.getElem?_eq_getElem (by omega)]; rfl
  · unfold World.frozen?; simp only [hb]; simp
  · rw [cell_of_row _ _ j Z e (0, 0) hb]; exact hv j u hu

/-- What Route hands back. -/
def rtePost (F : FP) (a b : Nat) (w : World) (e : Ending) (w' : World) : Prop :=
  ∃ (g : Nat), e = .returned (.slice (some ⟨g, 0, none⟩) (F.dst a b + 1) (F.dst a b + 1)) ∧ g < w'.heap.size ∧ RowIs w' g (F.rte a b) ∧ ∃ z, w' = w.ext z

set_option maxRecDepth 20000 in
set_option maxHeartbeats 2000000 in
theorem route_any (F : FP) (a b : Nat) (w : World) (h : FlN w F) (ha : a < F.N) (hb : b < F.N) (hd4 : F.dst a b ≤ 384) :
    Calls Tryd.prog 25 #[.pointer (some ⟨F.fb, 0, none⟩), .int .i64 (a), .int .i64 (b)] w (rtePost F a b w) := by
  have HH := hid h
  obtain ⟨dd, hdd⟩ : ∃ dd, F.dst a b = dd := ⟨_, rfl⟩
  have HDD := hid hdd
  rw [hdd] at hd4
  obtain ⟨Z, hZ, hmk⟩ := make_one (P := Tryd.prog) 31 28 (.int .i64 0) 1 8 Tryd.underlying31 (by kernel_rfl) (dd + 1) (by omega) (by omega) (by omega)
  have hmk' : ∀ (kl kc : IntKind) (w : World), (Instr.makeSlice 31 (.int kl 1) (.int kc ((dd : Int) + 1))).run Tryd.prog w = .ok (.slice (some ⟨w.heap.size, 0, none⟩) 1 (dd + 1)) (w.alloc (.cells Z 28)) := by
    intro kl kc w; have := hmk kl kc w; rw [show ((dd + 1 : Nat) : Int) = (dd : Int) + 1 by omega] at this; exact this
  clear h hmk hdd
  go_enter Tryd.func25, Tryd.ntmps25
  go_wp2_with (first | (go_at_call 50; (first | with_reducible refine (valid_yes F a _ HH.out ha).mono ?_ | with_reducible refine (valid_yes F b _ HH.out hb).mono ?_); rintro e w ⟨rfl, rfl⟩) | (go_at_call 20; refine (HDD.out ▸ dist_any F a b _ HH.out ha hb).mono ?_; rintro e w' ⟨rfl, z1, rfl⟩) | (go_at_call 56; refine hold ?_))
  unfold Hid
  have hZ1 : Z.size = dd + 1 := by omega
  refine (appendRoute_any F a b (w.heap.size + z1.heap.size) (dd + 1) w _ HH.out (by (repeat (first | with_reducible exact Below.rf _ | with_reducible exact World.below_ext _ _ | with_reducible refine Below.ex ?_ _ | with_reducible refine Below.al ?_ _ | with_reducible refine Below.setCell ?_ (by simp) _ | with_reducible refine Below.drew ?_))) (by omega) (Pad.made _ _ _ _ _ _ (by simp) (by simpa using hZ1) (by simp [idRow]) ?_) (by rw [HDD.out]) (by omega) ha hb).mono ?_
  · intro j u hu
    have hj := (List.getElem?_eq_some_iff.1 hu).1
    simp [idRow] at hj
    subst hj
    have hu2 : (.int .i64 (a)) = u := by simpa [idRow] using hu
    rw [← hu2, Array.getElem?_setIfInBounds_self_of_lt (by omega)]
  rintro e w2 ⟨rfl, hp2, hB2⟩
  go_wp2
  go_ret
  refine ⟨_, by rw [HDD.out]; rfl, hp2.lt, fun i c hc => hp2.is i _ (by simp [idRow, hc]), hB2.is_ext⟩
end Go.Proofs.Qxb6500715aDoor
