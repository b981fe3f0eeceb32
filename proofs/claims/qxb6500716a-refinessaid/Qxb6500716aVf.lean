/-
  Verify: the walk.
-/
import Derived.Test.Qxb6500716aCf
namespace Go.Proofs.Qxb6500716a
open Go.RowKit Go.Maps
set_option linter.unusedSimpArgs false
set_option linter.unusedVariables false
set_option maxRecDepth 20000
set_option maxHeartbeats 4000000
/-- A request in a block of its own. -/
structure Bq (w : World) (b : Nat) (q : Rq) (gv : Value) : Prop where
  c0 : w.cell? ⟨b, 0, none⟩ = some (.int .i64 (q.r))
  c1 : w.cell? ⟨b, 1, none⟩ = some (.int .i64 (q.s))
  c2 : w.cell? ⟨b, 2, none⟩ = some (.int .i64 (q.t))
  c3 : w.cell? ⟨b, 3, none⟩ = some gv
  c4 : w.cell? ⟨b, 4, none⟩ = some (.int .i64 (q.h))
  c5 : w.cell? ⟨b, 5, none⟩ = some (.int .i64 (q.m))
  lt : b < w.heap.size
theorem Bq.below {w w' : World} {b : Nat} {q : Rq} {gv : Value} (h : Bq w b q gv) (hb : Below w.heap.size w w') : Bq w' b q gv :=
  ⟨(World.cell?_of_block (hb.block b h.lt)).trans h.c0, (World.cell?_of_block (hb.block b h.lt)).trans h.c1, (World.cell?_of_block (hb.block b h.lt)).trans h.c2, (World.cell?_of_block (hb.block b h.lt)).trans h.c3, (World.cell?_of_block (hb.block b h.lt)).trans h.c4, (World.cell?_of_block (hb.block b h.lt)).trans h.c5, Nat.lt_of_lt_of_le h.lt hb.size⟩
set_option maxHeartbeats 8000000 in
theorem verify_any (M : TM) (T : TS) (N : PM) (S : PS) (n fb : Nat) (F : FS) (lab : Nat → Nat) (q : Rq) (gv : Value) (c t x : Int) (pv dv : Value) (path done : List Int) (w : World) (hF : FAt w lab fb F) (hT : TAt w lab M T) (hP : PAt w lab N fb M.t S n) (hg : GAt w lab gv q.gl) (hr : I64 q.r) (hp : Ints w lab pv path) (hd : Ints w lab dv done) (hpl : path.length ≤ 1000) (ht : -4000000000 ≤ t ∧ t ≤ 4000000000) (hpb : ∀ i, I64 (path.getD i 0)) (hdb : ∀ d, d ∈ done → -8000000000 ≤ d ∧ d ≤ 8000000000) :
    Calls Try.prog 41 #[.pointer (some ⟨N.p, 0, none⟩), .agg #[.int .i64 ((q).r), .int .i64 ((q).s), .int .i64 ((q).t), gv, .int .i64 ((q).h), .int .i64 ((q).m)], .agg #[.int .u8 (c), .int .i64 (t), pv, dv, .int .i64 (x)]] w fun e w' => e = .returned (.int .i64 (ver F T q c t path done)) ∧ ∃ z, w' = w.ext z := by
  obtain ⟨go, gc, hgv, hgcc⟩ := hg.ex
  obtain ⟨po, pc, hpv, hpcc⟩ := hp.ex
  obtain ⟨dq, dc, hdv, hdcc⟩ := hd.ex
  have hgl := hg.len
  have hdl := hd.len
  obtain ⟨pn, hpn⟩ : ∃ y, path.length = y := ⟨_, rfl⟩
  obtain ⟨dn, hdn⟩ : ∃ y, done.length = y := ⟨_, rfl⟩
  obtain ⟨gn, hgn⟩ : ∃ y, q.gl.length = y := ⟨_, rfl⟩
  rw [hgn] at hgv hgl
  rw [hpn] at hpv hpl
  rw [hdn] at hdv hdl
  subst hgv hpv hdv
  have HF := hid hF
  have HT := hid hT
  have HPA := hid hP
  have HG := hid hg
  have HP := hid hp
  have HD := hid hd
  have HPN := hid hpn
  have HDN := hid hdn
  have HGN := hid hgn
  have HPB := hid hpb
  have HDB := hid hdb
  have HR := hid hr
  unfold ver
  rw [hpn, hdn, hgn]
  obtain ⟨rc, hrc⟩ : ∃ y, rcode F T q = y := ⟨_, rfl⟩
  have CK : Hid (∀ w' : World, Below w.heap.size w w' → Calls Try.prog 69 #[.pointer (some ⟨N.p, 0, none⟩), .agg #[.int .i64 ((q).r), .int .i64 ((q).s), .int .i64 ((q).t), .slice go gn gc, .int .i64 ((q).h), .int .i64 ((q).m)]] w' fun e w'' => e = .returned (.int .u8 rc) ∧ ∃ z, w'' = w'.ext z) := fun w' h => by
    have := check_any M T N S n fb F lab q (.slice go gn gc) w' (HF.out.below h) (HT.out.below h) (HPA.out.below h) (HG.out.below h)
    rw [hrc] at this
    exact this
  rw [hrc]
  obtain ⟨res, hres⟩ : ∃ y, (if rc ≠ 0 ∨ c ≠ 0 ∨ pn = 0 ∨ dn ≠ gn then (1 : Int)
  else if t ≠ q.t ∨ path.getD 0 0 ≠ q.s then 2
  else if jmp F (path.getD 0 0) (path.drop 1) = false then 3
  else if dwl path t (t + pn - 1) t q.gl done = false then 4
  else if path.getD (pn - 1) 0 ≠ (F.park q.r).1 then 5
  else if q.h < (pn : Int) - 1 ∨ (T.base : Int) + 256 ≤ t + pn - 1 then 6
  else cfl T q.r t path) = y := ⟨_, rfl⟩
  rw [hres]
  have HRS := hid hres
  have HRC := hid hrc
  unfold I64 at hr
  clear hF hT hP hg hp hd hpn hdn hgn hpb hdb hrc hres
  by_cases h1 : rc = 0
  case neg =>
    --BEGIN 1
    have d1 : (rc != 0) = true := by simp [h1]
    have HE2 : Hid ((1 : Int) = res) := by have := HRS.out; rw [if_pos (Or.inl h1)] at this; exact this
    clear HRS h1
    go_enter Try.func41, Try.ntmps41
    go_wp2_with (first | (go_at_call 69; refine calls_nm fun w1 hw1 => ?_; refine hold ?_))
    unfold Hid
    have hb1 : Below w.heap.size w w1 := by rw [hw1]; (repeat (first | with_reducible exact Below.rf _ | with_reducible exact World.below_ext _ _ | with_reducible refine Below.ex ?_ _ | with_reducible refine Below.al ?_ _ | with_reducible refine Below.setCell ?_ (by simp) _ | with_reducible refine Below.drew ?_))
    have HX : Hid (Bx w1 (w.heap.size + 1) c t x (.slice po pn pc) (.slice dq dn dc)) := by
      unfold Hid
      refine ⟨?_, ?_, ?_, ?_, ?_, by rw [hw1]; simp⟩
      all_goals (rw [hw1]; simp [go_sem, ↓IntWalk.iteOmega])
    have HQ : Hid (Bq w1 w.heap.size q (.slice go gn gc)) := by
      unfold Hid
      refine ⟨?_, ?_, ?_, ?_, ?_, ?_, by rw [hw1]; (simp <;> omega)⟩
      all_goals (rw [hw1]; simp [go_sem, ↓IntWalk.iteOmega])
    have HB1 := hid hb1
    obtain ⟨b1, hsb1⟩ : ∃ y, w.heap.size + 1 = y := ⟨_, rfl⟩
    rw [hsb1] at HX ⊢
    obtain ⟨b0, hsb⟩ : ∃ y, w.heap.size = y := ⟨_, rfl⟩
    rw [hsb] at HQ ⊢
    have HSB := hid hsb
    have hB := Below.rf w1
    clear hw1 hsb hsb1
    have hx := HX.out.below (w' := w1) hB
    have hxq := HQ.out.below (w' := w1) hB
    have hP2 := (HPA.out.below (w' := w1) (HB1.out.trans (hB.mono HB1.out.size)))
    have q0 := hx.c0
    have q1 := hx.c1
    have q2 := hx.c2
    have q3 := hx.c3
    have q4 := hx.c4
    have hbl := hx.lt
    have s0 := hxq.c0
    have s1 := hxq.c1
    have s2 := hxq.c2
    have s3 := hxq.c3
    have s4 := hxq.c4
    have s5 := hxq.c5
    have hsl := hxq.lt
    have p0 := hP2.c0
    have p1 := hP2.c1
    have hpl1 := hP2.bp.lt
    have HB := hid hB
    clear hx hxq hP2
    clear hB
    skip
    refine (CK.out _ hb1).mono ?_
    rintro e w' ⟨rfl, z, rfl⟩
    clear hb1
    go_wp2
    go_ret
    exact ⟨by rw [← HE2.out]; rfl, (HB1.out.trans (Below.mono (by (repeat (first | with_reducible exact Below.rf _ | with_reducible exact World.below_ext _ _ | with_reducible refine Below.ex ?_ _ | with_reducible refine Below.al ?_ _ | with_reducible refine Below.setCell ?_ (by simp) _ | with_reducible refine Below.drew ?_))) HB1.out.size)).is_ext⟩
    --END 1
  have d1 : (rc != 0) = false := by simp [h1]
  by_cases h2 : c = 0
  case neg =>
    --BEGIN 1
    have d2 : (c != 0) = true := by simp [h2]
    have HE2 : Hid ((1 : Int) = res) := by have := HRS.out; rw [if_pos (Or.inr (Or.inl h2))] at this; exact this
    clear HRS h1 h2
    go_enter Try.func41, Try.ntmps41
    go_wp2_with (first | (go_at_call 69; refine calls_nm fun w1 hw1 => ?_; refine hold ?_))
    unfold Hid
    have hb1 : Below w.heap.size w w1 := by rw [hw1]; (repeat (first | with_reducible exact Below.rf _ | with_reducible exact World.below_ext _ _ | with_reducible refine Below.ex ?_ _ | with_reducible refine Below.al ?_ _ | with_reducible refine Below.setCell ?_ (by simp) _ | with_reducible refine Below.drew ?_))
    have HX : Hid (Bx w1 (w.heap.size + 1) c t x (.slice po pn pc) (.slice dq dn dc)) := by
      unfold Hid
      refine ⟨?_, ?_, ?_, ?_, ?_, by rw [hw1]; simp⟩
      all_goals (rw [hw1]; simp [go_sem, ↓IntWalk.iteOmega])
    have HQ : Hid (Bq w1 w.heap.size q (.slice go gn gc)) := by
      unfold Hid
      refine ⟨?_, ?_, ?_, ?_, ?_, ?_, by rw [hw1]; (simp <;> omega)⟩
      all_goals (rw [hw1]; simp [go_sem, ↓IntWalk.iteOmega])
    have HB1 := hid hb1
    obtain ⟨b1, hsb1⟩ : ∃ y, w.heap.size + 1 = y := ⟨_, rfl⟩
    rw [hsb1] at HX ⊢
    obtain ⟨b0, hsb⟩ : ∃ y, w.heap.size = y := ⟨_, rfl⟩
    rw [hsb] at HQ ⊢
    have HSB := hid hsb
    have hB := Below.rf w1
    clear hw1 hsb hsb1
    have hx := HX.out.below (w' := w1) hB
    have hxq := HQ.out.below (w' := w1) hB
    have hP2 := (HPA.out.below (w' := w1) (HB1.out.trans (hB.mono HB1.out.size)))
    have q0 := hx.c0
    have q1 := hx.c1
    have q2 := hx.c2
    have q3 := hx.c3
    have q4 := hx.c4
    have hbl := hx.lt
    have s0 := hxq.c0
    have s1 := hxq.c1
    have s2 := hxq.c2
    have s3 := hxq.c3
    have s4 := hxq.c4
    have s5 := hxq.c5
    have hsl := hxq.lt
    have p0 := hP2.c0
    have p1 := hP2.c1
    have hpl1 := hP2.bp.lt
    have HB := hid hB
    clear hx hxq hP2
    clear hB
    skip
    refine (CK.out _ hb1).mono ?_
    rintro e w' ⟨rfl, z, rfl⟩
    clear hb1
    go_wp2
    go_ret
    exact ⟨by rw [← HE2.out]; rfl, (HB1.out.trans (Below.mono (by (repeat (first | with_reducible exact Below.rf _ | with_reducible exact World.below_ext _ _ | with_reducible refine Below.ex ?_ _ | with_reducible refine Below.al ?_ _ | with_reducible refine Below.setCell ?_ (by simp) _ | with_reducible refine Below.drew ?_))) HB1.out.size)).is_ext⟩
    --END 1
  have d2 : (c != 0) = false := by simp [h2]
  by_cases h3 : pn = 0
  case pos =>
    --BEGIN 1
    have d3 : ((pn : Int) == 0) = true := by simp [h3]
    have d3n : (pn == 0) = true := by simp [h3]
    have HE2 : Hid ((1 : Int) = res) := by have := HRS.out; rw [if_pos (Or.inr (Or.inr (Or.inl h3)))] at this; exact this
    clear HRS h1 h2 h3
    go_enter Try.func41, Try.ntmps41
    go_wp2_with (first | (go_at_call 69; refine calls_nm fun w1 hw1 => ?_; refine hold ?_))
    unfold Hid
    have hb1 : Below w.heap.size w w1 := by rw [hw1]; (repeat (first | with_reducible exact Below.rf _ | with_reducible exact World.below_ext _ _ | with_reducible refine Below.ex ?_ _ | with_reducible refine Below.al ?_ _ | with_reducible refine Below.setCell ?_ (by simp) _ | with_reducible refine Below.drew ?_))
    have HX : Hid (Bx w1 (w.heap.size + 1) c t x (.slice po pn pc) (.slice dq dn dc)) := by
      unfold Hid
      refine ⟨?_, ?_, ?_, ?_, ?_, by rw [hw1]; simp⟩
      all_goals (rw [hw1]; simp [go_sem, ↓IntWalk.iteOmega])
    have HQ : Hid (Bq w1 w.heap.size q (.slice go gn gc)) := by
      unfold Hid
      refine ⟨?_, ?_, ?_, ?_, ?_, ?_, by rw [hw1]; (simp <;> omega)⟩
      all_goals (rw [hw1]; simp [go_sem, ↓IntWalk.iteOmega])
    have HB1 := hid hb1
    obtain ⟨b1, hsb1⟩ : ∃ y, w.heap.size + 1 = y := ⟨_, rfl⟩
    rw [hsb1] at HX ⊢
    obtain ⟨b0, hsb⟩ : ∃ y, w.heap.size = y := ⟨_, rfl⟩
    rw [hsb] at HQ ⊢
    have HSB := hid hsb
    have hB := Below.rf w1
    clear hw1 hsb hsb1
    have hx := HX.out.below (w' := w1) hB
    have hxq := HQ.out.below (w' := w1) hB
    have hP2 := (HPA.out.below (w' := w1) (HB1.out.trans (hB.mono HB1.out.size)))
    have q0 := hx.c0
    have q1 := hx.c1
    have q2 := hx.c2
    have q3 := hx.c3
    have q4 := hx.c4
    have hbl := hx.lt
    have s0 := hxq.c0
    have s1 := hxq.c1
    have s2 := hxq.c2
    have s3 := hxq.c3
    have s4 := hxq.c4
    have s5 := hxq.c5
    have hsl := hxq.lt
    have p0 := hP2.c0
    have p1 := hP2.c1
    have hpl1 := hP2.bp.lt
    have HB := hid hB
    clear hx hxq hP2
    clear hB
    skip
    refine (CK.out _ hb1).mono ?_
    rintro e w' ⟨rfl, z, rfl⟩
    clear hb1
    go_wp2
    go_ret
    exact ⟨by rw [← HE2.out]; rfl, (HB1.out.trans (Below.mono (by (repeat (first | with_reducible exact Below.rf _ | with_reducible exact World.below_ext _ _ | with_reducible refine Below.ex ?_ _ | with_reducible refine Below.al ?_ _ | with_reducible refine Below.setCell ?_ (by simp) _ | with_reducible refine Below.drew ?_))) HB1.out.size)).is_ext⟩
    --END 1
  have d3 : ((pn : Int) == 0) = false := by simp [h3]
  have d3n : (pn == 0) = false := by simp [h3]
  by_cases h4 : dn = gn
  case neg =>
    --BEGIN 1
    have d4 : ((dn : Int) != (gn : Int)) = true := by simp; omega
    have d4n : (dn != gn) = true := by simp [h4]
    have HE2 : Hid ((1 : Int) = res) := by have := HRS.out; rw [if_pos (Or.inr (Or.inr (Or.inr h4)))] at this; exact this
    clear HRS h1 h2 h3 h4
    go_enter Try.func41, Try.ntmps41
    go_wp2_with (first | (go_at_call 69; refine calls_nm fun w1 hw1 => ?_; refine hold ?_))
    unfold Hid
    have hb1 : Below w.heap.size w w1 := by rw [hw1]; (repeat (first | with_reducible exact Below.rf _ | with_reducible exact World.below_ext _ _ | with_reducible refine Below.ex ?_ _ | with_reducible refine Below.al ?_ _ | with_reducible refine Below.setCell ?_ (by simp) _ | with_reducible refine Below.drew ?_))
    have HX : Hid (Bx w1 (w.heap.size + 1) c t x (.slice po pn pc) (.slice dq dn dc)) := by
      unfold Hid
      refine ⟨?_, ?_, ?_, ?_, ?_, by rw [hw1]; simp⟩
      all_goals (rw [hw1]; simp [go_sem, ↓IntWalk.iteOmega])
    have HQ : Hid (Bq w1 w.heap.size q (.slice go gn gc)) := by
      unfold Hid
      refine ⟨?_, ?_, ?_, ?_, ?_, ?_, by rw [hw1]; (simp <;> omega)⟩
      all_goals (rw [hw1]; simp [go_sem, ↓IntWalk.iteOmega])
    have HB1 := hid hb1
    obtain ⟨b1, hsb1⟩ : ∃ y, w.heap.size + 1 = y := ⟨_, rfl⟩
    rw [hsb1] at HX ⊢
    obtain ⟨b0, hsb⟩ : ∃ y, w.heap.size = y := ⟨_, rfl⟩
    rw [hsb] at HQ ⊢
    have HSB := hid hsb
    have hB := Below.rf w1
    clear hw1 hsb hsb1
    have hx := HX.out.below (w' := w1) hB
    have hxq := HQ.out.below (w' := w1) hB
    have hP2 := (HPA.out.below (w' := w1) (HB1.out.trans (hB.mono HB1.out.size)))
    have q0 := hx.c0
    have q1 := hx.c1
    have q2 := hx.c2
    have q3 := hx.c3
    have q4 := hx.c4
    have hbl := hx.lt
    have s0 := hxq.c0
    have s1 := hxq.c1
    have s2 := hxq.c2
    have s3 := hxq.c3
    have s4 := hxq.c4
    have s5 := hxq.c5
    have hsl := hxq.lt
    have p0 := hP2.c0
    have p1 := hP2.c1
    have hpl1 := hP2.bp.lt
    have HB := hid hB
    clear hx hxq hP2
    clear hB
    skip
    refine (CK.out _ hb1).mono ?_
    rintro e w' ⟨rfl, z, rfl⟩
    clear hb1
    go_wp2
    go_ret
    exact ⟨by rw [← HE2.out]; rfl, (HB1.out.trans (Below.mono (by (repeat (first | with_reducible exact Below.rf _ | with_reducible exact World.below_ext _ _ | with_reducible refine Below.ex ?_ _ | with_reducible refine Below.al ?_ _ | with_reducible refine Below.setCell ?_ (by simp) _ | with_reducible refine Below.drew ?_))) HB1.out.size)).is_ext⟩
    --END 1
  have d4 : ((dn : Int) != (gn : Int)) = false := by simp [h4]
  have d4n : (dn != gn) = false := by simp [h4]
  have HRS2 : Hid ((if t ≠ q.t ∨ path.getD 0 0 ≠ q.s then (2 : Int)
  else if jmp F (path.getD 0 0) (path.drop 1) = false then 3
  else if dwl path t (t + pn - 1) t q.gl done = false then 4
  else if path.getD (pn - 1) 0 ≠ (F.park q.r).1 then 5
  else if q.h < (pn : Int) - 1 ∨ (T.base : Int) + 256 ≤ t + pn - 1 then 6
  else cfl T q.r t path) = res) := by
    have := HRS.out
    rw [if_neg (by omega)] at this
    exact this
  obtain ⟨pm, rfl⟩ : ∃ y, pn = y + 1 := ⟨pn - 1, by omega⟩
  have HRC0 : Hid (rcode F T q = 0) := by unfold Hid; rw [HRC.out, h1]
  have HDG : Hid (done.length = q.gl.length) := by unfold Hid; rw [HDN.out, HGN.out, h4]
  clear h1 h2 h3 h4 HRS HRC
  obtain ⟨x0, hx0⟩ : ∃ y, path.getD 0 0 = y := ⟨_, rfl⟩
  rw [hx0] at HRS2
  have HX0 := hid hx0
  have hi0 : 0 < path.length := by rw [HPN.out]; omega
  obtain ⟨bk, ba, hpo, hbk, e0⟩ := ints_at HP.out (Below.rf w) hi0
  rw [hx0, Nat.add_zero] at e0
  subst hpo
  clear hx0 hi0
  have hd3 : ((pm : Int) + 1 == 0) = false := by simp; omega
  by_cases h5 : t = q.t
  case neg =>
    --BEGIN 2
    have d5 : (t != q.t) = true := by simp [h5]
    have HE2 : Hid ((2 : Int) = res) := by have := HRS2.out; rw [if_pos (Or.inl h5)] at this; exact this
    clear HRS2 h5
    go_enter Try.func41, Try.ntmps41
    go_wp2_with (first | (go_at_call 69; refine calls_nm fun w1 hw1 => ?_; refine hold ?_))
    unfold Hid
    have hb1 : Below w.heap.size w w1 := by rw [hw1]; (repeat (first | with_reducible exact Below.rf _ | with_reducible exact World.below_ext _ _ | with_reducible refine Below.ex ?_ _ | with_reducible refine Below.al ?_ _ | with_reducible refine Below.setCell ?_ (by simp) _ | with_reducible refine Below.drew ?_))
    have HX : Hid (Bx w1 (w.heap.size + 1) c t x (.slice (some ⟨bk, ba, none⟩) (pm + 1) pc) (.slice dq dn dc)) := by
      unfold Hid
      refine ⟨?_, ?_, ?_, ?_, ?_, by rw [hw1]; simp⟩
      all_goals (rw [hw1]; simp [go_sem, ↓IntWalk.iteOmega])
    have HQ : Hid (Bq w1 w.heap.size q (.slice go gn gc)) := by
      unfold Hid
      refine ⟨?_, ?_, ?_, ?_, ?_, ?_, by rw [hw1]; (simp <;> omega)⟩
      all_goals (rw [hw1]; simp [go_sem, ↓IntWalk.iteOmega])
    have HB1 := hid hb1
    obtain ⟨b1, hsb1⟩ : ∃ y, w.heap.size + 1 = y := ⟨_, rfl⟩
    rw [hsb1] at HX ⊢
    obtain ⟨b0, hsb⟩ : ∃ y, w.heap.size = y := ⟨_, rfl⟩
    rw [hsb] at HQ ⊢
    have HSB := hid hsb
    have hB := Below.rf w1
    clear hw1 hsb hsb1
    have hx := HX.out.below (w' := w1) hB
    have hxq := HQ.out.below (w' := w1) hB
    have hP2 := (HPA.out.below (w' := w1) (HB1.out.trans (hB.mono HB1.out.size)))
    have q0 := hx.c0
    have q1 := hx.c1
    have q2 := hx.c2
    have q3 := hx.c3
    have q4 := hx.c4
    have hbl := hx.lt
    have s0 := hxq.c0
    have s1 := hxq.c1
    have s2 := hxq.c2
    have s3 := hxq.c3
    have s4 := hxq.c4
    have s5 := hxq.c5
    have hsl := hxq.lt
    have p0 := hP2.c0
    have p1 := hP2.c1
    have hpl1 := hP2.bp.lt
    have HB := hid hB
    clear hx hxq hP2
    clear hB
    have e01 := (World.cell?_of_block (hb1.block bk hbk)).trans e0
    have hbk1 := Nat.lt_of_lt_of_le hbk hb1.size
    refine (CK.out _ hb1).mono ?_
    rintro e w' ⟨rfl, z, rfl⟩
    clear hb1
    go_wp2
    first | with_reducible refine wp_region_ext2 (by kernel_rfl) (by kernel_rfl) ?_ | refine wp_region_ext (by kernel_rfl) (by kernel_rfl) ?_
    repeat (go_big_quiet_step (fail))
    refine wpQuiet_nil ?_
    rintro _ ⟨z, rfl⟩
    go_wp2
    go_ret
    exact ⟨by rw [← HE2.out]; rfl, (HB1.out.trans (Below.mono (by (repeat (first | with_reducible exact Below.rf _ | with_reducible exact World.below_ext _ _ | with_reducible refine Below.ex ?_ _ | with_reducible refine Below.al ?_ _ | with_reducible refine Below.setCell ?_ (by simp) _ | with_reducible refine Below.drew ?_))) HB1.out.size)).is_ext⟩
    --END 2
  have d5 : (t != q.t) = false := by simp [h5]
  by_cases h6 : x0 = q.s
  case neg =>
    --BEGIN 3
    have d6 : (x0 != q.s) = true := by simp [h6]
    have HE2 : Hid ((2 : Int) = res) := by have := HRS2.out; rw [if_pos (Or.inr h6)] at this; exact this
    clear HRS2 h5 h6
    go_enter Try.func41, Try.ntmps41
    go_wp2_with (first | (go_at_call 69; refine calls_nm fun w1 hw1 => ?_; refine hold ?_))
    unfold Hid
    have hb1 : Below w.heap.size w w1 := by rw [hw1]; (repeat (first | with_reducible exact Below.rf _ | with_reducible exact World.below_ext _ _ | with_reducible refine Below.ex ?_ _ | with_reducible refine Below.al ?_ _ | with_reducible refine Below.setCell ?_ (by simp) _ | with_reducible refine Below.drew ?_))
    have HX : Hid (Bx w1 (w.heap.size + 1) c t x (.slice (some ⟨bk, ba, none⟩) (pm + 1) pc) (.slice dq dn dc)) := by
      unfold Hid
      refine ⟨?_, ?_, ?_, ?_, ?_, by rw [hw1]; simp⟩
      all_goals (rw [hw1]; simp [go_sem, ↓IntWalk.iteOmega])
    have HQ : Hid (Bq w1 w.heap.size q (.slice go gn gc)) := by
      unfold Hid
      refine ⟨?_, ?_, ?_, ?_, ?_, ?_, by rw [hw1]; (simp <;> omega)⟩
      all_goals (rw [hw1]; simp [go_sem, ↓IntWalk.iteOmega])
    have HB1 := hid hb1
    obtain ⟨b1, hsb1⟩ : ∃ y, w.heap.size + 1 = y := ⟨_, rfl⟩
    rw [hsb1] at HX ⊢
    obtain ⟨b0, hsb⟩ : ∃ y, w.heap.size = y := ⟨_, rfl⟩
    rw [hsb] at HQ ⊢
    have HSB := hid hsb
    have hB := Below.rf w1
    clear hw1 hsb hsb1
    have hx := HX.out.below (w' := w1) hB
    have hxq := HQ.out.below (w' := w1) hB
    have hP2 := (HPA.out.below (w' := w1) (HB1.out.trans (hB.mono HB1.out.size)))
    have q0 := hx.c0
    have q1 := hx.c1
    have q2 := hx.c2
    have q3 := hx.c3
    have q4 := hx.c4
    have hbl := hx.lt
    have s0 := hxq.c0
    have s1 := hxq.c1
    have s2 := hxq.c2
    have s3 := hxq.c3
    have s4 := hxq.c4
    have s5 := hxq.c5
    have hsl := hxq.lt
    have p0 := hP2.c0
    have p1 := hP2.c1
    have hpl1 := hP2.bp.lt
    have HB := hid hB
    clear hx hxq hP2
    clear hB
    have e01 := (World.cell?_of_block (hb1.block bk hbk)).trans e0
    have hbk1 := Nat.lt_of_lt_of_le hbk hb1.size
    refine (CK.out _ hb1).mono ?_
    rintro e w' ⟨rfl, z, rfl⟩
    clear hb1
    go_wp2
    first | with_reducible refine wp_region_ext2 (by kernel_rfl) (by kernel_rfl) ?_ | refine wp_region_ext (by kernel_rfl) (by kernel_rfl) ?_
    repeat (go_big_quiet_step (fail))
    refine wpQuiet_nil ?_
    rintro _ ⟨z, rfl⟩
    go_wp2
    go_ret
    exact ⟨by rw [← HE2.out]; rfl, (HB1.out.trans (Below.mono (by (repeat (first | with_reducible exact Below.rf _ | with_reducible exact World.below_ext _ _ | with_reducible refine Below.ex ?_ _ | with_reducible refine Below.al ?_ _ | with_reducible refine Below.setCell ?_ (by simp) _ | with_reducible refine Below.drew ?_))) HB1.out.size)).is_ext⟩
    --END 3
  have d6 : (x0 != q.s) = false := by simp [h6]
  obtain ⟨jj, hjj⟩ : ∃ y, jmp F x0 (path.drop 1) = y := ⟨_, rfl⟩
  obtain ⟨dd, hdd⟩ : ∃ y, dwl path t (t + (pm : Int)) t q.gl done = y := ⟨_, rfl⟩
  obtain ⟨xl, hxl⟩ : ∃ y, path.getD pm 0 = y := ⟨_, rfl⟩
  obtain ⟨pk, hpk⟩ : ∃ y, F.park q.r = y := ⟨_, rfl⟩
  obtain ⟨cf, hcf⟩ : ∃ y, cfl T q.r t path = y := ⟨_, rfl⟩
  have HRS3 : Hid ((if jj = false then (3 : Int)
  else if dd = false then 4
  else if xl ≠ pk.1 then 5
  else if q.h < (pm : Int) ∨ (T.base : Int) + 256 ≤ t + pm then 6
  else cf) = res) := by
    have := HRS2.out
    rw [if_neg (by omega), show t + ((pm + 1 : Nat) : Int) - 1 = t + pm by omega, show pm + 1 - 1 = pm from rfl, show ((pm + 1 : Nat) : Int) - 1 = pm by omega, hjj, hdd, hxl, hpk, hcf] at this
    exact this
  have HJJ := hid hjj
  have HXL := hid hxl
  have hgok := (rok_of HF.out.ok HRC0.out).gok
  have hbase := HT.out.bd.base
  have DW : Hid (∀ w' : World, Below w.heap.size w w' → Calls Try.prog 70 #[.agg #[.int .i64 ((q).r), .int .i64 ((q).s), .int .i64 ((q).t), .slice go gn gc, .int .i64 ((q).h), .int .i64 ((q).m)], .agg #[.int .u8 (c), .int .i64 (t), .slice (some ⟨bk, ba, none⟩) (pm + 1) pc, .slice dq dn dc, .int .i64 (x)]] w' fun e w'' => e = .returned (.bool dd) ∧ ∃ z, w'' = w'.ext z) := fun w' h => by
    have := dwells_any q (.slice go gn gc) (.slice (some ⟨bk, ba, none⟩) (pm + 1) pc) (.slice dq dn dc) c t x path done lab w' (HG.out.below h) (HP.out.keptL (A := fun _ => False) (KeptL.of_below h) (fun _ h => h.elim)) (HD.out.keptL (A := fun _ => False) (KeptL.of_below h) (fun _ h => h.elim)) HDG.out (by rw [HPN.out]; omega) ht (fun g hg => (hgok.2 g hg).2) HDB.out
    rw [HPN.out, show t + ((pm + 1 : Nat) : Int) - 1 = t + pm by omega, hdd] at this
    exact this
  have PK : Hid (∀ w' : World, Below w.heap.size w w' → Calls Try.prog 20 #[.pointer (some ⟨fb, 0, none⟩), .int .i64 (q.r)] w' fun e w'' => e = .returned (.tuple #[.int .i64 (pk.1), .bool pk.2]) ∧ w'' = w') := fun w' h => by
    have := parking_any fb F lab q.r w' (HF.out.below h)
    rw [hpk] at this
    exact this
  have AR : Hid (∀ w' : World, Calls Try.prog 36 #[.agg #[.int .u8 (c), .int .i64 (t), .slice (some ⟨bk, ba, none⟩) (pm + 1) pc, .slice dq dn dc, .int .i64 (x)]] w' fun e w'' => e = .returned (.int .i64 (t + (pm : Int))) ∧ ∃ z, w'' = w'.ext z) := fun w' => (arrival_any c t x _ (pm + 1) pc (.slice dq dn dc) w' ht (by omega)).mono (by rintro e w'' ⟨rfl, hz⟩; exact ⟨by congr 2; omega, hz⟩)
  have EN : Hid (∀ w' : World, Below w.heap.size w w' → Calls Try.prog 25 #[.pointer (some ⟨M.t, 0, none⟩)] w' fun e w'' => e = .returned (.int .i64 ((T.base : Int) + 256)) ∧ w'' = w') := fun w' h => end_any M T lab w' (HT.out.below h)
  have CF : Hid (∀ w' : World, Below w.heap.size w w' → Calls Try.prog 71 #[.pointer (some ⟨N.p, 0, none⟩), .int .i64 (q.r), .agg #[.int .u8 (c), .int .i64 (t), .slice (some ⟨bk, ba, none⟩) (pm + 1) pc, .slice dq dn dc, .int .i64 (x)]] w' fun e w'' => e = .returned (.int .i64 (cf)) ∧ ∃ z, w'' = w'.ext z) := fun w' h => by
    have := conflicts_any M T N S n fb lab q.r c t x (.slice (some ⟨bk, ba, none⟩) (pm + 1) pc) (.slice dq dn dc) path done w' (HT.out.below h) (HPA.out.below h) HR.out (HP.out.keptL (A := fun _ => False) (KeptL.of_below h) (fun _ h => h.elim)) (HD.out.keptL (A := fun _ => False) (KeptL.of_below h) (fun _ h => h.elim)) (by rw [HPN.out]; omega) ht HPB.out
    rw [hcf] at this
    exact this
  clear HRS2 h5 h6 hjj hdd hxl hpk hcf hgok
  --BEGIN 4
  go_enter Try.func41, Try.ntmps41
  go_wp2_with (first | (go_at_call 69; refine calls_nm fun w1 hw1 => ?_; refine hold ?_))
  unfold Hid
  have hb1 : Below w.heap.size w w1 := by rw [hw1]; (repeat (first | with_reducible exact Below.rf _ | with_reducible exact World.below_ext _ _ | with_reducible refine Below.ex ?_ _ | with_reducible refine Below.al ?_ _ | with_reducible refine Below.setCell ?_ (by simp) _ | with_reducible refine Below.drew ?_))
  have HX : Hid (Bx w1 (w.heap.size + 1) c t x (.slice (some ⟨bk, ba, none⟩) (pm + 1) pc) (.slice dq dn dc)) := by
    unfold Hid
    refine ⟨?_, ?_, ?_, ?_, ?_, by rw [hw1]; simp⟩
    all_goals (rw [hw1]; simp [go_sem, ↓IntWalk.iteOmega])
  have HQ : Hid (Bq w1 w.heap.size q (.slice go gn gc)) := by
    unfold Hid
    refine ⟨?_, ?_, ?_, ?_, ?_, ?_, by rw [hw1]; (simp <;> omega)⟩
    all_goals (rw [hw1]; simp [go_sem, ↓IntWalk.iteOmega])
  have HB1 := hid hb1
  obtain ⟨b1, hsb1⟩ : ∃ y, w.heap.size + 1 = y := ⟨_, rfl⟩
  rw [hsb1] at HX ⊢
  obtain ⟨b0, hsb⟩ : ∃ y, w.heap.size = y := ⟨_, rfl⟩
  rw [hsb] at HQ ⊢
  have HSB := hid hsb
  have hB := Below.rf w1
  clear hw1 hsb hsb1
  have hx := HX.out.below (w' := w1) hB
  have hxq := HQ.out.below (w' := w1) hB
  have hP2 := (HPA.out.below (w' := w1) (HB1.out.trans (hB.mono HB1.out.size)))
  have q0 := hx.c0
  have q1 := hx.c1
  have q2 := hx.c2
  have q3 := hx.c3
  have q4 := hx.c4
  have hbl := hx.lt
  have s0 := hxq.c0
  have s1 := hxq.c1
  have s2 := hxq.c2
  have s3 := hxq.c3
  have s4 := hxq.c4
  have s5 := hxq.c5
  have hsl := hxq.lt
  have p0 := hP2.c0
  have p1 := hP2.c1
  have hpl1 := hP2.bp.lt
  have HB := hid hB
  clear hx hxq hP2
  clear hB
  have e01 := (World.cell?_of_block (hb1.block bk hbk)).trans e0
  have hbk1 := Nat.lt_of_lt_of_le hbk hb1.size
  refine (CK.out _ hb1).mono ?_
  rintro e w' ⟨rfl, z, rfl⟩
  clear hb1
  go_wp2
  first | with_reducible refine wp_region_ext2 (by kernel_rfl) (by kernel_rfl) ?_ | refine wp_region_ext (by kernel_rfl) (by kernel_rfl) ?_
  repeat (go_big_quiet_step (fail))
  refine wpQuiet_nil ?_
  rintro w2 ⟨z, hw2⟩
  have hB2 : Hid (Below w1.heap.size w1 w2) := by unfold Hid; rw [hw2]; (repeat (first | with_reducible exact Below.rf _ | with_reducible exact World.below_ext _ _ | with_reducible refine Below.ex ?_ _ | with_reducible refine Below.al ?_ _ | with_reducible refine Below.setCell ?_ (by simp) _ | with_reducible refine Below.drew ?_))
  clear hw2 d1 d2 d3 d3n d4 d4n d5 d6 hd3 CK e01 hbk1
  clear q0 q1 q2 q3 q4 hbl s0 s1 s2 s3 s4 s5 hsl p0 p1 hpl1 HB
  go_wp2
  go_loopw [7] (fun v wr => ∃ k : Nat, v = .int .i64 ((k : Int) + 1) ∧ k ≤ pm ∧ jmp F (path.getD k 0) (path.drop (k + 1)) = jj ∧ Below w1.heap.size w1 wr) (fun v _ => pm + 1 - (intOf v).toNat)
  case atStart => exact ⟨0, rfl, Nat.zero_le _, by rw [HX0.out]; exact HJJ.out, hB2.out⟩
  case round =>
    obtain ⟨k, rfl, hk, heq, hB⟩ := hrel
    have hx := HX.out.below (w' := wr) hB
    have hxq := HQ.out.below (w' := wr) hB
    have hP2 := (HPA.out.below (w' := wr) (HB1.out.trans (hB.mono HB1.out.size)))
    have q0 := hx.c0
    have q1 := hx.c1
    have q2 := hx.c2
    have q3 := hx.c3
    have q4 := hx.c4
    have hbl := hx.lt
    have s0 := hxq.c0
    have s1 := hxq.c1
    have s2 := hxq.c2
    have s3 := hxq.c3
    have s4 := hxq.c4
    have s5 := hxq.c5
    have hsl := hxq.lt
    have p0 := hP2.c0
    have p1 := hP2.c1
    have hpl1 := hP2.bp.lt
    have HB := hid hB
    clear hx hxq hP2
    by_cases hkn : k < pm
    · --BEGIN 5
      have dk : decide ((k : Int) + 1 < (pm : Int) + 1) = true := by simp; omega
      have dkn : decide (k < pm) = true := by simp; omega
      have dk2 : decide (k + 1 < pm + 1) = true := by simp; omega
      have dk3 : decide (k < pm + 1) = true := by simp; omega
      have hkl : k < path.length := by rw [HPN.out]; omega
      have hkl1 : k + 1 < path.length := by rw [HPN.out]; omega
      obtain ⟨bk', ba', hpo', hbk1, y0⟩ := ints_at HP.out (HB1.out.trans (hB.mono HB1.out.size)) hkl
      simp only [Option.some.injEq, Addr.mk.injEq, and_true] at hpo'
      obtain ⟨rfl, rfl⟩ := hpo'
      obtain ⟨bk', ba', hpo', -, y1⟩ := ints_at HP.out (HB1.out.trans (hB.mono HB1.out.size)) hkl1
      simp only [Option.some.injEq, Addr.mk.injEq, and_true] at hpo'
      obtain ⟨rfl, rfl⟩ := hpo'
      rw [List.drop_eq_getElem_cons hkl1, jmp, show path[k + 1] = path.getD (k + 1) 0 by rw [List.getD_eq_getElem?_getD, List.getElem?_eq_getElem hkl1]; rfl] at heq
      generalize hya : path.getD k 0 = y at *
      generalize hyb0 : path.getD (k + 1) 0 = yb at *
      obtain ⟨v, hv⟩ : ∃ v, F.adj y yb = v := ⟨_, rfl⟩
      rw [hv] at heq
      have FC : Hid (∀ w' : World, Below wr.heap.size wr w' → Calls Try.prog 21 #[.pointer (some ⟨fb, 0, none⟩), .int .i64 (y), .int .i64 (yb)] w' fun e w'' => e = .returned (.bool v) ∧ w'' = w') := fun w' h => by
        have := adjacent_any fb F lab y yb w' (HF.out.below (HB1.out.trans (Below.mono (HB.out.trans (h.mono HB.out.size)) HB1.out.size)))
        rw [hv] at this
        exact this
      have HEQ := hid heq
      have HY := hid hyb0
      clear heq hv hkl hkl1 hB hya hyb0 e0 hbk
      by_cases hyy : y = yb
      · have d7 : (y != yb) = false := by simp [hyy]
        have HE : Hid (jmp F (path.getD (k + 1) 0) (path.drop (k + 1 + 1)) = jj) := by
          unfold Hid
          have := HEQ.out
          rw [if_neg (fun h => h.1 hyy)] at this
          rw [HY.out]
          exact this
        clear HEQ hyy
        go_wp2
        first | with_reducible refine wp_region_ext2 (by kernel_rfl) (by kernel_rfl) ?_ | refine wp_region_ext (by kernel_rfl) (by kernel_rfl) ?_
        repeat (go_big_quiet_step (fail))
        refine wpQuiet_nil ?_
        rintro w7 ⟨z, hw2⟩
        have HB4 : Hid (Below w1.heap.size w1 w7) := HB.out.trans (Below.mono (by rw [hw2]; exact World.below_ext _ _) HB.out.size)
        clear hw2
        go_wp2
        go_roundw
        case rel => exact ⟨k + 1, by go_num, by omega, HE.out, HB4.out⟩
        case measure => (simp [intOf] <;> omega)
      · have d7 : (y != yb) = true := by simp [hyy]
        cases v with
        | true =>
          have HE : Hid (jmp F (path.getD (k + 1) 0) (path.drop (k + 1 + 1)) = jj) := by
            unfold Hid
            have := HEQ.out
            rw [if_neg (fun h => by cases h.2)] at this
            rw [HY.out]
            exact this
          clear HEQ hyy
          go_wp2
          first | with_reducible refine wp_region_ext2 (by kernel_rfl) (by kernel_rfl) ?_ | refine wp_region_ext (by kernel_rfl) (by kernel_rfl) ?_
          repeat (go_big_quiet_step (fail))
          refine wpQuiet_nil ?_
          rintro w7 ⟨z, hw2⟩
          have HB4 : Hid (Below w1.heap.size w1 w7) := HB.out.trans (Below.mono (by rw [hw2]; exact World.below_ext _ _) HB.out.size)
          have p0' : w7.cell? ⟨N.p, 0, none⟩ = some (.pointer (some ⟨fb, 0, none⟩)) := by rw [hw2]; exact (World.cell?_of_block ((World.below_ext wr z).block N.p hpl1)).trans p0
          have hpl7 : N.p < w7.heap.size := by rw [hw2]; exact Nat.lt_of_lt_of_le hpl1 (World.below_ext wr z).size
          have FC7 : Hid (∀ w' : World, Below w7.heap.size w7 w' → Calls Try.prog 21 #[.pointer (some ⟨fb, 0, none⟩), .int .i64 (y), .int .i64 (yb)] w' fun e w'' => e = .returned (.bool true) ∧ w'' = w') := fun w' h => FC.out w' (by rw [hw2] at h; exact (World.below_ext wr z).trans (h.mono (World.below_ext wr z).size))
          clear hw2 p0 hpl1 FC
          go_wp2_with (first | (go_at_call 21; refine (FC7.out _ (by (repeat (first | with_reducible exact Below.rf _ | with_reducible exact World.below_ext _ _ | with_reducible refine Below.ex ?_ _ | with_reducible refine Below.al ?_ _ | with_reducible refine Below.setCell ?_ (by simp) _ | with_reducible refine Below.drew ?_)))).mono ?_; rintro e w' ⟨rfl, hw'⟩; obtain rfl := hw'.symm))
          go_roundw
          case rel => exact ⟨k + 1, by go_num, by omega, HE.out, HB4.out⟩
          case measure => (simp [intOf] <;> omega)
        | false =>
          have HE2 : Hid ((3 : Int) = res) := by
            unfold Hid
            have h1 := HEQ.out
            have h2 := HRS3.out
            rw [if_pos ⟨hyy, rfl⟩] at h1
            rw [if_pos h1.symm] at h2
            exact h2
          clear HEQ hyy
          go_wp2
          first | with_reducible refine wp_region_ext2 (by kernel_rfl) (by kernel_rfl) ?_ | refine wp_region_ext (by kernel_rfl) (by kernel_rfl) ?_
          repeat (go_big_quiet_step (fail))
          refine wpQuiet_nil ?_
          rintro w7 ⟨z, hw2⟩
          have HB4 : Hid (Below w1.heap.size w1 w7) := HB.out.trans (Below.mono (by rw [hw2]; exact World.below_ext _ _) HB.out.size)
          have p0' : w7.cell? ⟨N.p, 0, none⟩ = some (.pointer (some ⟨fb, 0, none⟩)) := by rw [hw2]; exact (World.cell?_of_block ((World.below_ext wr z).block N.p hpl1)).trans p0
          have hpl7 : N.p < w7.heap.size := by rw [hw2]; exact Nat.lt_of_lt_of_le hpl1 (World.below_ext wr z).size
          have FC7 : Hid (∀ w' : World, Below w7.heap.size w7 w' → Calls Try.prog 21 #[.pointer (some ⟨fb, 0, none⟩), .int .i64 (y), .int .i64 (yb)] w' fun e w'' => e = .returned (.bool false) ∧ w'' = w') := fun w' h => FC.out w' (by rw [hw2] at h; exact (World.below_ext wr z).trans (h.mono (World.below_ext wr z).size))
          clear hw2 p0 hpl1 FC
          go_wp2_with (first | (go_at_call 21; refine (FC7.out _ (by (repeat (first | with_reducible exact Below.rf _ | with_reducible exact World.below_ext _ _ | with_reducible refine Below.ex ?_ _ | with_reducible refine Below.al ?_ _ | with_reducible refine Below.setCell ?_ (by simp) _ | with_reducible refine Below.drew ?_)))).mono ?_; rintro e w' ⟨rfl, hw'⟩; obtain rfl := hw'.symm))
          go_ret
          exact ⟨by rw [← HE2.out]; rfl, (HB1.out.trans (HB4.out.mono HB1.out.size)).is_ext⟩
      --END 5
    · --BEGIN 6
      have dk : decide ((k : Int) + 1 < (pm : Int) + 1) = false := by simp; omega
      have dkn : decide (k < pm) = false := by simp; omega
      have HJT : Hid (jj = true) := by
        unfold Hid
        rw [← heq, List.drop_eq_nil_of_le (by rw [HPN.out]; omega)]
        rfl
      have DW2 := hid (fun (w' : World) (h : Below wr.heap.size wr w') => DW.out w' (HB1.out.trans (Below.mono (HB.out.trans (h.mono HB.out.size)) HB1.out.size)))
      have CF2 := hid (fun (w' : World) (h : Below wr.heap.size wr w') => CF.out w' (HB1.out.trans (Below.mono (HB.out.trans (h.mono HB.out.size)) HB1.out.size)))
      have PK2 := hid (fun (w' : World) (h : Below wr.heap.size wr w') => PK.out w' (HB1.out.trans (Below.mono (HB.out.trans (h.mono HB.out.size)) HB1.out.size)))
      have EN2 := hid (fun (w' : World) (h : Below wr.heap.size wr w') => EN.out w' (HB1.out.trans (Below.mono (HB.out.trans (h.mono HB.out.size)) HB1.out.size)))
      have hil : pm < path.length := by rw [HPN.out]; omega
      obtain ⟨bk', ba', hpo', hbk1, yl⟩ := ints_at HP.out (HB1.out.trans (hB.mono HB1.out.size)) hil
      simp only [Option.some.injEq, Addr.mk.injEq, and_true] at hpo'
      obtain ⟨rfl, rfl⟩ := hpo'
      rw [HXL.out] at yl
      have HR4 : Hid ((if dd = false then (4 : Int)
        else if xl ≠ pk.1 then 5
        else if q.h < (pm : Int) ∨ (T.base : Int) + 256 ≤ t + pm then 6
        else cf) = res) := by
        have := HRS3.out
        rw [HJT.out, if_neg (by simp)] at this
        exact this
      clear heq hB HRS3 HJT DW CF PK EN e0 hbk hil
      cases dd with
      | false =>
        have HE2 : Hid ((4 : Int) = res) := HR4.out
        clear HR4
        go_wp2_with (first | (go_at_call 70; refine (DW2.out _ (by (repeat (first | with_reducible exact Below.rf _ | with_reducible exact World.below_ext _ _ | with_reducible refine Below.ex ?_ _ | with_reducible refine Below.al ?_ _ | with_reducible refine Below.setCell ?_ (by simp) _ | with_reducible refine Below.drew ?_)))).mono ?_; rintro e w' ⟨rfl, z, rfl⟩))
        go_ret
        exact ⟨by rw [← HE2.out]; rfl, (HB1.out.trans ((HB.out.trans (Below.mono (by (repeat (first | with_reducible exact Below.rf _ | with_reducible exact World.below_ext _ _ | with_reducible refine Below.ex ?_ _ | with_reducible refine Below.al ?_ _ | with_reducible refine Below.setCell ?_ (by simp) _ | with_reducible refine Below.drew ?_))) HB.out.size)).mono HB1.out.size)).is_ext⟩
      | true =>
      have HR5 : Hid ((if xl ≠ pk.1 then (5 : Int)
        else if q.h < (pm : Int) ∨ (T.base : Int) + 256 ≤ t + pm then 6
        else cf) = res) := HR4.out
      clear HR4
      obtain ⟨pk1, pk2⟩ := pk
      simp only at HR5 PK2
      by_cases h7 : xl = pk1
      case neg =>
        have d7 : (xl != pk1) = true := by simp [h7]
        have HE2 : Hid ((5 : Int) = res) := by have := HR5.out; rw [if_pos h7] at this; exact this
        clear HR5 h7
        go_wp2_with (first | (go_at_call 70; refine (DW2.out _ (by (repeat (first | with_reducible exact Below.rf _ | with_reducible exact World.below_ext _ _ | with_reducible refine Below.ex ?_ _ | with_reducible refine Below.al ?_ _ | with_reducible refine Below.setCell ?_ (by simp) _ | with_reducible refine Below.drew ?_)))).mono ?_; rintro e w' ⟨rfl, z, rfl⟩))
        first | with_reducible refine wp_region_ext2 (by kernel_rfl) (by kernel_rfl) ?_ | refine wp_region_ext (by kernel_rfl) (by kernel_rfl) ?_
        repeat (go_big_quiet_step ((go_at_call 20; exact Calls.ext_of_same (PK2.out _ (by (repeat (first | with_reducible exact Below.rf _ | with_reducible exact World.below_ext _ _ | with_reducible refine Below.ex ?_ _ | with_reducible refine Below.al ?_ _ | with_reducible refine Below.setCell ?_ (by simp) _ | with_reducible refine Below.drew ?_)))))))
        refine wpQuiet_nil ?_
        rintro _ ⟨z, rfl⟩
        go_wp2
        go_ret
        exact ⟨by rw [← HE2.out]; rfl, (HB1.out.trans ((HB.out.trans (Below.mono (by (repeat (first | with_reducible exact Below.rf _ | with_reducible exact World.below_ext _ _ | with_reducible refine Below.ex ?_ _ | with_reducible refine Below.al ?_ _ | with_reducible refine Below.setCell ?_ (by simp) _ | with_reducible refine Below.drew ?_))) HB.out.size)).mono HB1.out.size)).is_ext⟩
      have d7 : (xl != pk1) = false := by simp [h7]
      have HR6 : Hid ((if q.h < (pm : Int) ∨ (T.base : Int) + 256 ≤ t + pm then (6 : Int) else cf) = res) := by have := HR5.out; rw [if_neg (by omega)] at this; exact this
      clear HR5 h7
      by_cases h8 : q.h < (pm : Int)
      case pos =>
        have d8 : decide (q.h < (pm : Int)) = true := by simp [h8]
        have HE2 : Hid ((6 : Int) = res) := by have := HR6.out; rw [if_pos (Or.inl h8)] at this; exact this
        clear HR6
        go_wp2_with (first | (go_at_call 70; refine (DW2.out _ (by (repeat (first | with_reducible exact Below.rf _ | with_reducible exact World.below_ext _ _ | with_reducible refine Below.ex ?_ _ | with_reducible refine Below.al ?_ _ | with_reducible refine Below.setCell ?_ (by simp) _ | with_reducible refine Below.drew ?_)))).mono ?_; rintro e w' ⟨rfl, z, rfl⟩))
        first | with_reducible refine wp_region_ext2 (by kernel_rfl) (by kernel_rfl) ?_ | refine wp_region_ext (by kernel_rfl) (by kernel_rfl) ?_
        repeat (go_big_quiet_step ((go_at_call 20; exact Calls.ext_of_same (PK2.out _ (by (repeat (first | with_reducible exact Below.rf _ | with_reducible exact World.below_ext _ _ | with_reducible refine Below.ex ?_ _ | with_reducible refine Below.al ?_ _ | with_reducible refine Below.setCell ?_ (by simp) _ | with_reducible refine Below.drew ?_)))))))
        refine wpQuiet_nil ?_
        rintro _ ⟨z, rfl⟩
        go_wp2
        first | with_reducible refine wp_region_ext2 (by kernel_rfl) (by kernel_rfl) ?_ | refine wp_region_ext (by kernel_rfl) (by kernel_rfl) ?_
        repeat (go_big_quiet_step (fail))
        refine wpQuiet_nil ?_
        rintro _ ⟨z, rfl⟩
        go_wp2
        go_ret
        exact ⟨by rw [← HE2.out]; rfl, (HB1.out.trans ((HB.out.trans (Below.mono (by (repeat (first | with_reducible exact Below.rf _ | with_reducible exact World.below_ext _ _ | with_reducible refine Below.ex ?_ _ | with_reducible refine Below.al ?_ _ | with_reducible refine Below.setCell ?_ (by simp) _ | with_reducible refine Below.drew ?_))) HB.out.size)).mono HB1.out.size)).is_ext⟩
      have d8 : decide (q.h < (pm : Int)) = false := by simp; omega
      by_cases h9 : (T.base : Int) + 256 ≤ t + pm
      case pos =>
        have d9 : decide ((T.base : Int) + 256 ≤ t + (pm : Int)) = true := by simp [h9]
        have HE2 : Hid ((6 : Int) = res) := by have := HR6.out; rw [if_pos (Or.inr h9)] at this; exact this
        clear HR6
        go_wp2_with (first | (go_at_call 70; refine (DW2.out _ (by (repeat (first | with_reducible exact Below.rf _ | with_reducible exact World.below_ext _ _ | with_reducible refine Below.ex ?_ _ | with_reducible refine Below.al ?_ _ | with_reducible refine Below.setCell ?_ (by simp) _ | with_reducible refine Below.drew ?_)))).mono ?_; rintro e w' ⟨rfl, z, rfl⟩))
        first | with_reducible refine wp_region_ext2 (by kernel_rfl) (by kernel_rfl) ?_ | refine wp_region_ext (by kernel_rfl) (by kernel_rfl) ?_
        repeat (go_big_quiet_step ((go_at_call 20; exact Calls.ext_of_same (PK2.out _ (by (repeat (first | with_reducible exact Below.rf _ | with_reducible exact World.below_ext _ _ | with_reducible refine Below.ex ?_ _ | with_reducible refine Below.al ?_ _ | with_reducible refine Below.setCell ?_ (by simp) _ | with_reducible refine Below.drew ?_)))))))
        refine wpQuiet_nil ?_
        rintro _ ⟨z, rfl⟩
        go_wp2
        first | with_reducible refine wp_region_ext2 (by kernel_rfl) (by kernel_rfl) ?_ | refine wp_region_ext (by kernel_rfl) (by kernel_rfl) ?_
        repeat (go_big_quiet_step ((first | (go_at_call 25; exact Calls.ext_of_same (EN2.out _ (by (repeat (first | with_reducible exact Below.rf _ | with_reducible exact World.below_ext _ _ | with_reducible refine Below.ex ?_ _ | with_reducible refine Below.al ?_ _ | with_reducible refine Below.setCell ?_ (by simp) _ | with_reducible refine Below.drew ?_))))) | (go_at_call 36; exact Calls.ext_of (AR.out _)))))
        refine wpQuiet_nil ?_
        rintro _ ⟨z, rfl⟩
        go_wp2
        go_ret
        exact ⟨by rw [← HE2.out]; rfl, (HB1.out.trans ((HB.out.trans (Below.mono (by (repeat (first | with_reducible exact Below.rf _ | with_reducible exact World.below_ext _ _ | with_reducible refine Below.ex ?_ _ | with_reducible refine Below.al ?_ _ | with_reducible refine Below.setCell ?_ (by simp) _ | with_reducible refine Below.drew ?_))) HB.out.size)).mono HB1.out.size)).is_ext⟩
      have d9 : decide ((T.base : Int) + 256 ≤ t + (pm : Int)) = false := by simp; omega
      have HE2 : Hid (cf = res) := by have := HR6.out; rw [if_neg (by omega)] at this; exact this
      clear HR6
      go_wp2_with (first | (go_at_call 70; refine (DW2.out _ (by (repeat (first | with_reducible exact Below.rf _ | with_reducible exact World.below_ext _ _ | with_reducible refine Below.ex ?_ _ | with_reducible refine Below.al ?_ _ | with_reducible refine Below.setCell ?_ (by simp) _ | with_reducible refine Below.drew ?_)))).mono ?_; rintro e w' ⟨rfl, z, rfl⟩))
      first | with_reducible refine wp_region_ext2 (by kernel_rfl) (by kernel_rfl) ?_ | refine wp_region_ext (by kernel_rfl) (by kernel_rfl) ?_
      repeat (go_big_quiet_step ((go_at_call 20; exact Calls.ext_of_same (PK2.out _ (by (repeat (first | with_reducible exact Below.rf _ | with_reducible exact World.below_ext _ _ | with_reducible refine Below.ex ?_ _ | with_reducible refine Below.al ?_ _ | with_reducible refine Below.setCell ?_ (by simp) _ | with_reducible refine Below.drew ?_)))))))
      refine wpQuiet_nil ?_
      rintro _ ⟨z, rfl⟩
      go_wp2
      first | with_reducible refine wp_region_ext2 (by kernel_rfl) (by kernel_rfl) ?_ | refine wp_region_ext (by kernel_rfl) (by kernel_rfl) ?_
      repeat (go_big_quiet_step ((first | (go_at_call 25; exact Calls.ext_of_same (EN2.out _ (by (repeat (first | with_reducible exact Below.rf _ | with_reducible exact World.below_ext _ _ | with_reducible refine Below.ex ?_ _ | with_reducible refine Below.al ?_ _ | with_reducible refine Below.setCell ?_ (by simp) _ | with_reducible refine Below.drew ?_))))) | (go_at_call 36; exact Calls.ext_of (AR.out _)))))
      refine wpQuiet_nil ?_
      rintro _ ⟨z, rfl⟩
      go_wp2_with (first | (go_at_call 71; refine (CF2.out _ (by (repeat (first | with_reducible exact Below.rf _ | with_reducible exact World.below_ext _ _ | with_reducible refine Below.ex ?_ _ | with_reducible refine Below.al ?_ _ | with_reducible refine Below.setCell ?_ (by simp) _ | with_reducible refine Below.drew ?_)))).mono ?_; rintro e w' ⟨rfl, z, rfl⟩))
      go_ret
      exact ⟨by rw [← HE2.out]; rfl, (HB1.out.trans ((HB.out.trans (Below.mono (by (repeat (first | with_reducible exact Below.rf _ | with_reducible exact World.below_ext _ _ | with_reducible refine Below.ex ?_ _ | with_reducible refine Below.al ?_ _ | with_reducible refine Below.setCell ?_ (by simp) _ | with_reducible refine Below.drew ?_))) HB.out.size)).mono HB1.out.size)).is_ext⟩
      --END 6
  --END 4
end Go.Proofs.Qxb6500716a
