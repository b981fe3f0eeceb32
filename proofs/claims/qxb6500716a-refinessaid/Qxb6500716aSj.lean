/-
  Solve: a request that stands.
-/
import Derived.Test.Qxb6500716aSh
import Derived.Test.Qxb6500716aSi
namespace Go.Proofs.Qxb6500716a
open Go.RowKit Go.Maps
set_option linter.unusedSimpArgs false
set_option linter.unusedVariables false
set_option maxRecDepth 20000
set_option maxHeartbeats 4000000
theorem under122 : Try.prog.underlying 122 = some (.slice 123) := by kernel_rfl
/-- The maps while they are made. -/
structure Mks (w5 : World) (H i : Nat) (wr : World) : Prop where
  sz : wr.heap.size = w5.heap.size + 1 + i
  b : Blk wr w5.heap.size (H + 1) (fun j => if j < i then .map (some (w5.heap.size + 1 + j)) else .map none)
  m : ∀ j, j < i → BAt 125 wr (w5.heap.size + 1 + j) 0 (fun _ => False)
  bl : Below w5.heap.size w5 wr
theorem Mks.next {w5 wr w6 : World} {H i : Nat} (h : Mks w5 H i wr) (hi : i < H + 1) (hw : w6 = (wr.alloc (.map #[] 0)).setCell ⟨w5.heap.size, i, none⟩ (.map (some wr.heap.size))) : Mks w5 H (i + 1) w6 := by
  have ha : Below wr.heap.size wr (wr.alloc (.map #[] 0)) := by (repeat (first | with_reducible exact Below.rf _ | with_reducible exact World.below_ext _ _ | with_reducible refine Below.ex ?_ _ | with_reducible refine Below.al ?_ _ | with_reducible refine Below.setCell ?_ (by simp) _ | with_reducible refine Below.drew ?_))
  have hk : KeptBut w5.heap.size (wr.alloc (.map #[] 0)) w6 := by
    rw [hw]
    exact KeptBut.set (b := w5.heap.size) (KeptBut.refl _ _) (Or.inl rfl) _
  have hsz := h.sz
  have hlt := h.b.lt
  refine ⟨by rw [hw]; simp; omega, ?_, fun j hj => ?_, ?_⟩
  · rw [hw]
    refine ((h.b.below ha).set i _ hi).congr (fun k hk2 => ?_)
    unfold upd
    by_cases e : k = i
    · subst e
      rw [if_pos rfl, if_pos (by omega), hsz]
    · rw [if_neg e]
      simp only
      by_cases e2 : k < i
      · rw [if_pos e2, if_pos (by omega)]
      · rw [if_neg e2, if_neg (by omega)]
  · by_cases e : j = i
    · subst e
      have := BAt.made 125 wr
      rw [hsz] at this
      exact this.of_block (hk.block _ (by simp; omega) (by omega))
    · exact ((h.m j (by omega)).below ha).of_block (hk.block _ (by simp; omega) (by omega))
  · exact h.bl.trans ((ha.mono (Nat.le_of_lt hlt)).trans (hk.to_below (Nat.le_refl _) (by simp; omega)) |> fun k => k)
def lbS (n0 sb rb H k : Nat) : Nat := if k < n0 then 0 else if k = sb then 1 else if k = rb then 2 else if rb < k ∧ k ≤ rb + 1 + H then 100 + (k - rb - 1) else 0
theorem lbS_map (n0 sb rb H j : Nat) (h1 : n0 ≤ sb) (h2 : sb < rb) (hj : j ≤ H) : lbS n0 sb rb H (rb + 1 + j) = 100 + j := by
  unfold lbS
  rw [if_neg (by omega), if_neg (by omega), if_neg (by omega), if_pos ⟨by omega, by omega⟩]
  omega
theorem Mks.done {w0 w5 wr : World} {H sb : Nat} {q : Rq} {gv : Value} (h : Mks w5 H (H + 1) wr) (h0 : Below w0.heap.size w0 w5) (hs : Blk w5 sb 6 (rq4 q gv)) (hn : w0.heap.size ≤ sb) : Sg7 w0 wr (lbS w0.heap.size sb w5.heap.size H) sb w5.heap.size H (fun j => w5.heap.size + 1 + j) q gv (fun _ _ _ => False) 0 := by
  have hsl := hs.lt
  have h0s := h0.size
  refine ⟨h0.trans (h.bl.mono h0s), fun k hk => by unfold lbS; rw [if_pos hk], hs.below h.bl, by unfold lbS; rw [if_neg (by omega), if_pos rfl], ⟨h.b.congr (fun i hi => by rw [if_pos (by omega)]), by unfold lbS; rw [if_neg (by omega), if_neg (by omega), if_pos rfl], fun i hi => ⟨lbS_map _ _ _ _ _ hn hsl hi, 0, Nat.le_refl _, (h.m i (by omega)).congr (fun kl => ?_)⟩⟩⟩
  unfold SetR
  simp
theorem addR_none (s : Nat) : addR (fun _ _ _ => False) 0 s 0 = (fun i c l => i = 0 ∧ c = s ∧ l = 0) := by
  funext i c l
  simp [addR]
/-- What Solve answers. -/
def solP (w : World) (F : FS) (T : TS) (q : Rq) (bay hz : Int) (bv : Bool) (e : Ending) (w' : World) : Prop :=
  Below w.heap.size w w' ∧ ∃ (code : Nat) (arr : Int), e = .returned (.tuple #[.int .u8 code, .int .i64 (arr)]) ∧ ((bv = true ∧ code = 3 ∧ arr = 0) ∨ (bv = false ∧ Solved F T q bay hz code arr))
set_option maxRecDepth 1000000 in
set_option maxHeartbeats 400000000 in
theorem solve_ok (mb fb : Nat) (M : TM) (F : FS) (T : TS) (lab : Nat → Nat) (q : Rq) (gv : Value) (w : World) (hF : FAt w lab fb F) (hT : TAt w lab M T) (hm : MoAt w mb fb M.t) (hg : GAt w lab gv q.gl) (h0 : rcode F T q = 0) :
    Calls Try.prog 34 #[.pointer (some ⟨mb, 0, none⟩), .agg #[.int .i64 ((q).r), .int .i64 ((q).s), .int .i64 ((q).t), gv, .int .i64 ((q).h), .int .i64 ((q).m)]] w (solP w F T q (F.park q.r).1 (q.hz T) (T.blk q F.bays.length)) := by
  have hrk := rok_of hF.ok h0
  obtain ⟨⟨a1, a3, a5, a7, a9⟩, hgok⟩ := rcode_ok h0
  have hgs : gokS F q.gl = true := (gokS_iff F q.gl).2 hgok
  have hbay := hrk.bay
  have hbd := hT.bd.base
  have hF384 := hF.ok.n
  have hK16 := hgok.1
  obtain ⟨go, gc, hgv, hgcc⟩ := hg.ex
  obtain ⟨K, hK⟩ : ∃ y, q.gl.length = y := ⟨_, rfl⟩
  rw [hK] at hgv hK16
  subst hgv
  have HI : Hid (In7 w lab mb fb M F T q (.slice go K gc)) := ⟨hF, hT, hm, hg, by unfold I64; have := hF.ok.nb; omega, by omega⟩
  have RB : Hid (∀ w' : World, Below w.heap.size w w' → Calls Try.prog 23 #[.pointer (some ⟨fb, 0, none⟩)] w' fun e w'' => e = .returned (.int .i64 (F.bays.length)) ∧ w'' = w') := fun w' h => robots_any fb F lab w' (hF.below h)
  have VA : Hid (∀ w' : World, Below w.heap.size w w' → Calls Try.prog 53 #[.pointer (some ⟨fb, 0, none⟩), .int .i64 (q.s)] w' fun e w'' => e = .returned (.bool true) ∧ w'' = w') := fun w' h => by
    have := valid_any fb F lab q.s w' (hF.below h)
    rw [a3] at this
    exact this
  have SD : Hid (∀ w' : World, Below w.heap.size w w' → Calls Try.prog 56 #[.pointer (some ⟨mb, 0, none⟩), .slice go K gc] w' fun e w'' => e = .returned (.bool true) ∧ ∃ z, w'' = w'.ext z) := fun w' h => by
    have := sound_any mb fb M.t F lab (.slice go K gc) q.gl w' (hF.below h) (hm.below h) (hg.below h)
    rw [hgs] at this
    exact this
  have BS : Hid (∀ w' : World, Below w.heap.size w w' → Calls Try.prog 44 #[.pointer (some ⟨M.t, 0, none⟩)] w' fun e w'' => e = .returned (.int .i64 (T.base)) ∧ w'' = w') := fun w' h => base_any M T lab w' (hT.below h)
  have EN : Hid (∀ w' : World, Below w.heap.size w w' → Calls Try.prog 25 #[.pointer (some ⟨M.t, 0, none⟩)] w' fun e w'' => e = .returned (.int .i64 ((T.base : Int) + 256)) ∧ w'' = w') := fun w' h => end_any M T lab w' (hT.below h)
  obtain ⟨bv, hbv⟩ : ∃ y, T.blk q F.bays.length = y := ⟨_, rfl⟩
  have BK : Hid (∀ w' : World, Below w.heap.size w w' → Calls Try.prog 62 #[.pointer (some ⟨mb, 0, none⟩), .agg #[.int .i64 ((q).r), .int .i64 ((q).s), .int .i64 ((q).t), .slice go K gc, .int .i64 ((q).h), .int .i64 ((q).m)]] w' fun e w'' => e = .returned (.bool bv) ∧ ∃ z, w'' = w'.ext z) := fun w' h => by
    have := blocked_any mb fb F.bays.length M F T lab q (.slice go K gc) w' (hF.below h) (hT.below h) (hm.below h) HI.out.r (by omega) rfl
    rw [hbv] at this
    exact this
  obtain ⟨bay, hby⟩ : ∃ y, (F.park q.r).1 = y := ⟨_, rfl⟩
  obtain ⟨bb, hbb⟩ : ∃ y, (F.park q.r).2 = y := ⟨_, rfl⟩
  have PK : Hid (∀ w' : World, Below w.heap.size w w' → Calls Try.prog 20 #[.pointer (some ⟨fb, 0, none⟩), .int .i64 (q.r)] w' fun e w'' => e = .returned (.tuple #[.int .i64 (bay), .bool bb]) ∧ w'' = w') := fun w' h => by
    have := parking_any fb F lab q.r w' (hF.below h)
    rw [hby, hbb] at this
    exact this
  rw [hby] at hbay ⊢
  rw [hbv]
  have hnb6 := hF.ok.nb
  obtain ⟨nb, hnb⟩ : ∃ y, F.bays.length = y := ⟨_, rfl⟩
  rw [hnb] at RB a1 hnb6
  obtain ⟨H, hH⟩ : ∃ H : Nat, q.h = H := ⟨q.h.toNat, by omega⟩
  have HHQ := hid hH
  have HKL := hid hK
  have HGO := hid hgok
  have HS0 : Hid (q.s.toNat < F.n) := by unfold Hid; have := hrk.s; omega
  have hs0 := hrk.s
  have m0 := hm.c0
  have m1 := hm.c1
  have hml := hm.lt
  have e1 : decide (q.r < 0) = false := by simp; omega
  have e2 : decide ((nb : Int) ≤ q.r) = false := by simp; omega
  have e5 : decide (q.t < (T.base : Int)) = false := by simp; omega
  have e6 : decide ((T.base : Int) + 256 ≤ q.t) = false := by simp; omega
  have e7 : decide (q.h < 0) = false := by simp; omega
  have e8 : decide (255 < q.h) = false := by simp; omega
  have e9 : decide (q.m < 1) = false := by simp; omega
  have e10 : decide (1048576 < q.m) = false := by simp; omega
  have HBV := hid hbv
  clear hF hT hm hg h0 hrk hK hgok hgs hby hbb hnb hH hbv
  have hH255 : H ≤ 255 := by have := HHQ.out; omega
  obtain ⟨Zs, hs1, hs2, hs3⟩ := make_is (P := Try.prog) 122 123 (.map none) 1 8 under122 (by kernel_rfl) (H + 1) (by omega) (by omega)
  have hs4 : ∀ (kl kc : IntKind) (w : World), (Instr.makeSlice 122 (.int kl ((H : Int) + 1)) (.int kc ((H : Int) + 1))).run Try.prog w = .ok (.slice (some ⟨w.heap.size, 0, none⟩) (H + 1) (H + 1)) (w.alloc (.cells Zs 123)) := hs3
  have HZS := hid hs2
  clear hs1 hs2 hs3
  go_enter Try.func34, Try.ntmps34
  go_wp2
  (try dsimp only [List.append])
  first | with_reducible refine wp_region_ext2 (by kernel_rfl) (by kernel_rfl) ?_ | refine wp_region_ext (by kernel_rfl) (by kernel_rfl) ?_
  repeat (go_big_quiet_step ((first | (go_at_call 23; exact Calls.ext_of_same (RB.out _ (by (repeat (first | with_reducible exact Below.rf _ | with_reducible exact World.below_ext _ _ | with_reducible refine Below.ex ?_ _ | with_reducible refine Below.al ?_ _ | with_reducible refine Below.setCell ?_ (by simp) _ | with_reducible refine Below.drew ?_))))) | (go_at_call 53; exact Calls.ext_of_same (VA.out _ (by (repeat (first | with_reducible exact Below.rf _ | with_reducible exact World.below_ext _ _ | with_reducible refine Below.ex ?_ _ | with_reducible refine Below.al ?_ _ | with_reducible refine Below.setCell ?_ (by simp) _ | with_reducible refine Below.drew ?_))))) | (go_at_call 56; exact Calls.ext_of (SD.out _ (by (repeat (first | with_reducible exact Below.rf _ | with_reducible exact World.below_ext _ _ | with_reducible refine Below.ex ?_ _ | with_reducible refine Below.al ?_ _ | with_reducible refine Below.setCell ?_ (by simp) _ | with_reducible refine Below.drew ?_))))) | (go_at_call 44; exact Calls.ext_of_same (BS.out _ (by (repeat (first | with_reducible exact Below.rf _ | with_reducible exact World.below_ext _ _ | with_reducible refine Below.ex ?_ _ | with_reducible refine Below.al ?_ _ | with_reducible refine Below.setCell ?_ (by simp) _ | with_reducible refine Below.drew ?_))))) | (go_at_call 25; exact Calls.ext_of_same (EN.out _ (by (repeat (first | with_reducible exact Below.rf _ | with_reducible exact World.below_ext _ _ | with_reducible refine Below.ex ?_ _ | with_reducible refine Below.al ?_ _ | with_reducible refine Below.setCell ?_ (by simp) _ | with_reducible refine Below.drew ?_))))))))
  refine wpQuiet_nil ?_
  rintro w2 ⟨z, hw2⟩
  have hb2 : Below w.heap.size w w2 := by rw [hw2]; (repeat (first | with_reducible exact Below.rf _ | with_reducible exact World.below_ext _ _ | with_reducible refine Below.ex ?_ _ | with_reducible refine Below.al ?_ _ | with_reducible refine Below.setCell ?_ (by simp) _ | with_reducible refine Below.drew ?_))
  have S2 : Blk w2 w.heap.size 6 (rq4 q (.slice go K gc)) := by
    rw [hw2]
    refine Blk.below (w := w.alloc (.cells #[.int .i64 (q.r), .int .i64 (q.s), .int .i64 (q.t), .slice go K gc, .int .i64 (q.h), .int .i64 (q.m)] 30)) ?_ (World.below_ext _ _)
    refine ⟨by (simp <;> omega), fun i hi => ?_, fun i hi => by simp [go_sem, ↓IntWalk.iteOmega]⟩
    rcases (by omega : i = 0 ∨ i = 1 ∨ i = 2 ∨ i = 3 ∨ i = 4 ∨ i = 5) with rfl | rfl | rfl | rfl | rfl | rfl <;> simp [go_sem, ↓IntWalk.iteOmega, rq4]
  obtain ⟨sb, hsb⟩ : ∃ y, w.heap.size = y := ⟨_, rfl⟩
  have HSB : Hid (w.heap.size ≤ sb) := by unfold Hid; omega
  rw [hsb] at S2 ⊢
  have HB2 := hid hb2
  have HS2 := hid S2
  have BK2 := hid (fun (w' : World) (h : Below w2.heap.size w2 w') => BK.out w' (hb2.trans (h.mono hb2.size)))
  have r0 : w2.cell? ⟨sb, 0, none⟩ = some (.int .i64 (q.r)) := S2.is 0 (by omega)
  have r1 : w2.cell? ⟨sb, 1, none⟩ = some (.int .i64 (q.s)) := S2.is 1 (by omega)
  have r2 : w2.cell? ⟨sb, 2, none⟩ = some (.int .i64 (q.t)) := S2.is 2 (by omega)
  have r3 : w2.cell? ⟨sb, 3, none⟩ = some (.slice go K gc) := S2.is 3 (by omega)
  have r4 : w2.cell? ⟨sb, 4, none⟩ = some (.int .i64 (q.h)) := S2.is 4 (by omega)
  have r5 : w2.cell? ⟨sb, 5, none⟩ = some (.int .i64 (q.m)) := S2.is 5 (by omega)
  have hrl := S2.lt
  clear hw2 hb2 S2 hsb RB VA SD BS EN BK m0 m1 hml
  cases bv with
  | true =>
    --BEGIN 1
    go_wp2_with (first | (go_at_call 62; refine (BK2.out _ (by (repeat (first | with_reducible exact Below.rf _ | with_reducible exact World.below_ext _ _ | with_reducible refine Below.ex ?_ _ | with_reducible refine Below.al ?_ _ | with_reducible refine Below.setCell ?_ (by simp) _ | with_reducible refine Below.drew ?_)))).mono ?_; rintro e w' ⟨rfl, z3, rfl⟩))
    refine bodyPost_ret (v := .tuple #[.int .u8 3, .int .i64 (0)]) (by simp [results, Try.results34, go_sem, ↓IntWalk.iteOmega]) rfl ?_
    exact ⟨HB2.out.trans (Below.mono (by (repeat (first | with_reducible exact Below.rf _ | with_reducible exact World.below_ext _ _ | with_reducible refine Below.ex ?_ _ | with_reducible refine Below.al ?_ _ | with_reducible refine Below.setCell ?_ (by simp) _ | with_reducible refine Below.drew ?_))) HB2.out.size), 3, 0, rfl, Or.inl ⟨rfl, rfl, rfl⟩⟩
    --END 1
  | false =>
    go_wp2_with (first | (go_at_call 62; refine (BK2.out _ (by (repeat (first | with_reducible exact Below.rf _ | with_reducible exact World.below_ext _ _ | with_reducible refine Below.ex ?_ _ | with_reducible refine Below.al ?_ _ | with_reducible refine Below.setCell ?_ (by simp) _ | with_reducible refine Below.drew ?_)))).mono ?_; rintro e w' ⟨rfl, z3, rfl⟩))
    refine wp_nm fun w3 hw3 => ?_
    have hb3 : Below w2.heap.size w2 w3 := by rw [hw3]; (repeat (first | with_reducible exact Below.rf _ | with_reducible exact World.below_ext _ _ | with_reducible refine Below.ex ?_ _ | with_reducible refine Below.al ?_ _ | with_reducible refine Below.setCell ?_ (by simp) _ | with_reducible refine Below.drew ?_))
    have HB3 : Hid (Below w.heap.size w w3) := HB2.out.trans (hb3.mono HB2.out.size)
    have HS3 := hid (HS2.out.below hb3)
    have PK3 := hid (fun (w' : World) (h : Below w3.heap.size w3 w') => PK.out w' (HB3.out.trans (h.mono HB3.out.size)))
    have hMB := HI.out.m.below HB3.out
    have m0 := hMB.c0
    have hml := hMB.lt
    have s0 : w3.cell? ⟨sb, 0, none⟩ = some (.int .i64 (q.r)) := HS3.out.is 0 (by omega)
    have hsl := HS3.out.lt
    clear hw3 hb3 HB2 HS2 BK2 PK r0 r1 r2 r3 r4 r5 hrl hMB
    first | with_reducible refine wp_region_ext2 (by kernel_rfl) (by kernel_rfl) ?_ | refine wp_region_ext (by kernel_rfl) (by kernel_rfl) ?_
    repeat (go_big_quiet_step ((go_at_call 20; exact Calls.ext_of_same (PK3.out _ (by (repeat (first | with_reducible exact Below.rf _ | with_reducible exact World.below_ext _ _ | with_reducible refine Below.ex ?_ _ | with_reducible refine Below.al ?_ _ | with_reducible refine Below.setCell ?_ (by simp) _ | with_reducible refine Below.drew ?_)))))))
    refine wpQuiet_nil ?_
    rintro w4 ⟨z, hw2⟩
    have hb4 : Below w3.heap.size w3 w4 := by rw [hw2]; exact World.below_ext w3 _
    have HB4 : Hid (Below w.heap.size w w4) := HB3.out.trans (hb4.mono HB3.out.size)
    have HS4 := hid (HS3.out.below hb4)
    have s4 : w4.cell? ⟨sb, 4, none⟩ = some (.int .i64 ((H : Int))) := by
      have := HS4.out.is 4 (by omega)
      rw [show rq4 q (.slice go K gc) 4 = .int .i64 (q.h) from rfl, HHQ.out] at this
      exact this
    have hsl4 := HS4.out.lt
    clear hw2 hb4 HB3 HS3 PK3 m0 hml s0 hsl e1 e2 e5 e6 e7 e8 e9 e10
    go_wp2
    refine wp_nm fun w5 hw5 => ?_
    have K5 : Hid (Mks w4 H 0 w5) := by
      unfold Hid
      rw [hw5]
      refine ⟨by simp, ⟨by simp, fun l hl => ?_, fun i hi => by simp [go_sem, ↓IntWalk.iteOmega]⟩, fun j hj => by omega, (Below.rf _).al _⟩
      rw [if_neg (by omega)]
      simp [go_sem, ↓IntWalk.iteOmega, HZS.out, hl, made1]
    obtain ⟨rb, hrb⟩ : ∃ y, w4.heap.size = y := ⟨_, rfl⟩
    rw [hrb]
    have HRB := hid hrb
    clear hw5 hs4 hrb s4
    --BEGIN 2
    go_loopw [112] (fun v wr => ∃ i : Nat, v = .int .i64 (i) ∧ i ≤ H + 1 ∧ Mks w4 H i wr) (fun v _ => H + 1 - (intOf v).toNat)
    case atStart => exact ⟨0, rfl, Nat.zero_le _, K5.out⟩
    case round =>
      obtain ⟨i, rfl, hi, hM⟩ := hrel
      have HM := hid hM
      clear K5 hM
      by_cases hin : i < H + 1
      · --BEGIN 3
        have di : decide ((i : Int) < (H : Int) + 1) = true := by simp; omega
        have din : decide (i < H + 1) = true := by simp; omega
        have lc : wr.cell? ⟨rb, i, none⟩ = some (.map none) := by
          have := HM.out.b.is i hin
          rw [if_neg (by omega), HRB.out] at this
          exact this
        have lz : wr.frozen? ⟨rb, i, none⟩ = false := by
          have := HM.out.b.fz i hin
          rw [HRB.out] at this
          exact this
        have hrl : rb < wr.heap.size := by have := HM.out.b.lt; rw [HRB.out] at this; exact this
        have hmm := @run_makeMap Try.prog
        have M6 : Hid (Mks w4 H (i + 1) ((wr.setCell ⟨rb, i, none⟩ (.map (some wr.heap.size))).alloc (.map #[] 0))) := HM.out.next hin (by rw [HRB.out]; simp [go_sem, ↓IntWalk.iteOmega, hrl])
        go_wp2
        go_roundw
        case rel => exact ⟨i + 1, by go_num, by omega, M6.out⟩
        case measure => (simp [intOf] <;> omega)
        --END 3
      · --BEGIN 4
        have di : decide ((i : Int) < (H : Int) + 1) = false := by simp; omega
        have din : decide (i < H + 1) = false := by simp; omega
        obtain rfl : i = H + 1 := by omega
        have HSG := hid (HM.out.done HB4.out HS4.out HSB.out)
        rw [HRB.out] at HSG
        have rc0 : wr.cell? ⟨rb, 0, none⟩ = some (.map (some (rb + 1 + 0))) := HSG.out.rd.b.is 0 (by omega)
        have s1 : wr.cell? ⟨sb, 1, none⟩ = some (.int .i64 (q.s)) := HSG.out.s.is 1 (by omega)
        have hrl := HSG.out.rd.b.lt
        have hsl := HSG.out.s.lt
        obtain ⟨sn, hsn⟩ : ∃ sn : Nat, q.s = sn := ⟨q.s.toNat, by omega⟩
        rw [hsn] at s1
        have hsn2 : sn ≤ 384 := by omega
        have HSD := hid (HSG.out.below (Below.drew (Below.rf wr)))
        obtain ⟨w7, hrun, hr7, hg7⟩ := HSD.out.rd.put (i := 0) (c := sn) (l := 0) (Nat.zero_le _) (by omega) (by omega) (by omega)
        have HS7 := hid ((HSD.out.put (i := 0) (Nat.zero_le _) hr7 hg7).mono (B' := 386) (by omega))
        rw [addR_none] at HS7
        have HV7 : Hid (Svp F T q bay H (fun i c l => i = 0 ∧ c = sn ∧ l = 0) 0 0 0) := by
          have := Svp.start (F := F) (T := T) (q := q) (bay := bay) (H := H) HS0.out
          rw [hsn, Int.toNat_natCast] at this
          exact this
        rw [Nat.add_zero] at rc0 hrun
        simp only [Int.natCast_zero] at hrun
        clear hsn hr7 hg7 HM
        go_wp2
        refine region_via (fun a a' w' => w' = w7 ∧ a' = ((((((a.put (some 120) (.slice (some ⟨rb, 0, none⟩) (H + 1) (H + 1))).put (some 121) (.pointer (some ⟨rb, 0, none⟩))).put (some 122) (.map (some (rb + 1)))).put (some 123) (.pointer (some ⟨sb, 1, none⟩))).put (some 124) (.int .i64 (sn))).put (some 125) (.agg #[.int .i64 (sn), .int .i64 (0)]))) ?_ ?_
        · --BEGIN 5
          refine wp_region_tree 6 (fun w' => w'.cell? ⟨rb, 0, none⟩ = some (.map (some (rb + 1))) ∧ w'.cell? ⟨sb, 1, none⟩ = some (.int .i64 (sn))) (.q 0 false (.q 1 false (.q 2 true (.q 3 false (.q 4 true (.q 5 false (.one 6 false .nil))))))) (by kernel_rfl) (by kernel_rfl) (by kernel_rfl) ?_ ?_
          · simp [go_sem, ↓IntWalk.iteOmega, *]
          repeat (first | (refine wpTr_qf (v := ?_) rfl rfl ?_ ?_; rotate_left; focus (intro w; go_simp; (try (with_reducible rfl)); done); try simp only [List.getElem_toArray, List.getElem_cons_zero, List.getElem_cons_succ, Act.put, List.setIfInBounds_toArray, List.set_cons_zero, List.set_cons_succ]) | (refine wpTr_qt (v := ?_) rfl rfl ?_ ?_; rotate_left; focus (intro w hSw; (try dsimp only at hSw); go_simp; (try (with_reducible rfl)); done); try simp only [List.getElem_toArray, List.getElem_cons_zero, List.getElem_cons_succ, Act.put, List.setIfInBounds_toArray, List.set_cons_zero, List.set_cons_succ]))
          refine wpTr_one rfl rfl (fun K hK => ?_)
          go_simp
          refine hK.out _ _ (fun h => by cases h) ?_
          clear hK K
          refine wpTr_nil ?_
          refine NoPanic.normal ?_
          exact ⟨rfl, rfl, by simp only [Act.put, List.setIfInBounds_toArray, List.set_cons_zero, List.set_cons_succ, List.getElem_toArray, List.getElem_cons_zero, List.getElem_cons_succ, Int.natCast_zero, Int.natCast_add, Int.natCast_one]⟩
          --END 5
        · --BEGIN 6
          rintro a w8 ⟨rfl, rfl⟩
          simp only [Act.put, List.setIfInBounds_toArray, List.set_cons_zero, List.set_cons_succ]
          clear hrun rc0 s1 hrl hsl HSG HSD
          go_wp2
          refine wp_mono (off_loop w w8 lab _ mb sb fb rb H K gc go _ M F T q bay _ HI.out HS7.out HV7.out HKL.out hK16 HHQ.out.symm hH255 (by omega) HGO.out (by omega) _ _ _ _ _ _ _ _ _ _ _ _ _ _ _ _ _ _ _ _ _ _ _ _ _ _ _ _ _ _ _ _ _ _ _ _ _ _ _ _ _ _ _ _ _ _ _ _ _ _ _ _ _ _ _ _ _ _ _ _ _ _ _ _ _ _ _ _ _ _ _ _ _ _ _ _ _ _ _ _ _ _ _ _ _ _ _ _ _ _ _ _ _ _ _ _ _ _ _ _ _ _ _ _ _ _ _ _ _ _ _ _ _ _ _ _ _ _ _ _ _ _ _ _ _ _ _ _ _ _ _ _ _ _ _ _ _ _ _ _ _ _ _ _ _ _ _ _ _ _ _ _ _ _ _ _ _ _ _ _ _ _ _ _ _ _ _ _ _ _ _ _ _ _ _ _ _ _ _ _ _ _ _ _ _ _ _ _ _ _ _ _ _ _ _ _ _ _ _ _ _ _ _ _ _ _ _ _ _ _ _ _ _ _ _ _ _ _ _ _ _ _ _ _ _ _ _ _ _ _ _ _ _ _ _ _ _ _ _ _ _ _ _ _ _ _ _ _ _ _ _ _ _ _ _ _ _ _ _ _ _ _ _ _ _ _ _ _ _ _ _ _ _ _ _ _ _ _ _ _) ?_
          intro e a' w'' hE
          rcases hE with ⟨rfl, hB, hSo, hE⟩ | ⟨rfl, hB, arr, hSo, hE⟩
          · obtain ⟨UOF, hE⟩ := hE
            obtain rfl := hE
            have HB := hid hB
            have HSo := hid hSo
            clear hB hSo
            go_wp2
            refine bodyPost_ret (v := .tuple #[.int .u8 4, .int .i64 (0)]) (by simp [results, Try.results34, go_sem, ↓IntWalk.iteOmega]) rfl ?_
            exact ⟨HB.out, 4, 0, rfl, Or.inr ⟨rfl, HSo.out⟩⟩
          · obtain ⟨UOR, hE⟩ := hE
            obtain rfl := hE
            refine bodyPost_ret (v := .tuple #[.int .u8 0, .int .i64 (arr)]) (by simp [results, Try.results34, go_sem, ↓IntWalk.iteOmega]) rfl ?_
            exact ⟨hB, 0, arr, rfl, Or.inr ⟨rfl, hSo⟩⟩
          --END 6
        --END 4
    --END 2
end Go.Proofs.Qxb6500716a
