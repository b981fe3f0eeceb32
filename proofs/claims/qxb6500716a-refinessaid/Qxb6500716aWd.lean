/-
  Valid: the walk.
-/
import Derived.Test.Qxb6500716aWb
import Derived.Test.Qxb6500716aWc
namespace Go.Proofs.Qxb6500716a
open Go.RowKit Go.Maps
set_option linter.unusedSimpArgs false
set_option linter.unusedVariables false
set_option maxRecDepth 20000
set_option maxHeartbeats 4000000
set_option maxRecDepth 1000000 in
set_option maxHeartbeats 400000000 in
theorem valid_any16 (mb fb : Nat) (M : TM) (F : FS) (T : TS) (lab : Nat → Nat) (q : Rq) (gv : Value) (c t x : Int) (pv dv : Value) (path done : List Int) (w : World) (hF : FAt w lab fb F) (hT : TAt w lab M T) (hm : MoAt w mb fb M.t) (hg : GAt w lab gv q.gl) (hr : I64 q.r) (hp : Ints w lab pv path) (hd : Ints w lab dv done) (hpl : path.length ≤ 1000) (ht : -4000000000 ≤ q.t ∧ q.t ≤ 4000000000) (hgok : F.gok q.gl) (hdb : ∀ d, d ∈ done → -8000000000 ≤ d ∧ d ≤ 8000000000) :
    Calls Try.prog 16 #[.pointer (some ⟨mb, 0, none⟩), .agg #[.int .i64 ((q).r), .int .i64 ((q).s), .int .i64 ((q).t), gv, .int .i64 ((q).h), .int .i64 ((q).m)], .agg #[.int .u8 (c), .int .i64 (t), pv, dv, .int .i64 (x)]] w fun e w' => e = .returned (.bool (val F T q c t path done)) ∧ ∃ z, w' = w.ext z := by
  obtain ⟨go, gc, hgv, hgcc⟩ := hg.ex
  obtain ⟨po, pc, hpv, hpcc⟩ := hp.ex
  obtain ⟨dq, dc, hdv, hdcc⟩ := hd.ex
  have hgl := hg.len
  have hdl := hd.len
  obtain ⟨pn, hpn⟩ : ∃ y, path.length = y := ⟨_, rfl⟩
  obtain ⟨dn, hdn⟩ : ∃ y, done.length = y := ⟨_, rfl⟩
  obtain ⟨gn, hgn⟩ : ∃ y, q.gl.length = y := ⟨_, rfl⟩
  obtain ⟨nb, hnb⟩ : ∃ y, F.bays.length = y := ⟨_, rfl⟩
  rw [hgn] at hgv hgl
  rw [hpn] at hpv hpl
  rw [hdn] at hdv hdl
  subst hgv hpv hdv
  have hbase := hT.bd.base
  have HF := hid hF
  have HT := hid hT
  have HM := hid hm
  have HG := hid hg
  have HP := hid hp
  have HD := hid hd
  have HPN := hid hpn
  have HDN := hid hdn
  have HGN := hid hgn
  have HNB := hid hnb
  have HDB := hid hdb
  have HGO := hid hgok
  have HR := hid hr
  unfold val
  rw [hpn, hdn, hgn, hnb]
  obtain ⟨x0, hx0⟩ : ∃ y, path.getD 0 0 = y := ⟨_, rfl⟩
  rw [hx0]
  obtain ⟨res, hres⟩ : ∃ y, (if c ≠ 0 ∨ pn = 0 ∨ dn ≠ gn ∨ t ≠ q.t ∨ x0 ≠ q.s then false
  else if jmp F x0 (path.drop 1) = false then false
  else if dwl path q.t (q.t + pn - 1) q.t q.gl done = false then false
  else if path.getD (pn - 1) 0 ≠ (F.park q.r).1 ∨ q.h < (pn : Int) - 1 ∨ (T.base : Int) + 256 ≤ q.t + pn - 1 then false
  else if vrK T q.r q.t path 0 nb = false then false
  else T.freeF q.r (path.getD (pn - 1) 0) (q.t + pn - 1)) = y := ⟨_, rfl⟩
  rw [hres]
  have HRS := hid hres
  have HX0 := hid hx0
  unfold I64 at hr
  clear hF hT hm hg hp hd hpn hdn hgn hnb hdb hgok hres hx0
  by_cases h2 : c = 0
  case neg =>
    --BEGIN 1
    have d2 : (c != 0) = true := by simp [h2]
    have HE2 : Hid (false = res) := by have := HRS.out; rw [if_pos (Or.inl h2)] at this; exact this
    clear HRS h2
    go_enter Try.func16, Try.ntmps16
    go_wp2
    first | with_reducible refine wp_region_ext2 (by kernel_rfl) (by kernel_rfl) ?_ | refine wp_region_ext (by kernel_rfl) (by kernel_rfl) ?_
    repeat (go_big_quiet_step (fail))
    refine wpQuiet_nil ?_
    rintro _ ⟨z, rfl⟩
    go_wp2
    go_ret
    exact ⟨by rw [← HE2.out]; rfl, Below.is_ext (by (repeat (first | with_reducible exact Below.rf _ | with_reducible exact World.below_ext _ _ | with_reducible refine Below.ex ?_ _ | with_reducible refine Below.al ?_ _ | with_reducible refine Below.setCell ?_ (by simp) _ | with_reducible refine Below.drew ?_)))⟩
    --END 1
  have d2 : (c != 0) = false := by simp [h2]
  by_cases h3 : pn = 0
  case pos =>
    --BEGIN 1
    have d3 : ((pn : Int) == 0) = true := by simp [h3]
    have d3n : (pn == 0) = true := by simp [h3]
    have HE2 : Hid (false = res) := by have := HRS.out; rw [if_pos (Or.inr (Or.inl h3))] at this; exact this
    clear HRS h2 h3
    go_enter Try.func16, Try.ntmps16
    go_wp2
    first | with_reducible refine wp_region_ext2 (by kernel_rfl) (by kernel_rfl) ?_ | refine wp_region_ext (by kernel_rfl) (by kernel_rfl) ?_
    repeat (go_big_quiet_step (fail))
    refine wpQuiet_nil ?_
    rintro _ ⟨z, rfl⟩
    go_wp2
    go_ret
    exact ⟨by rw [← HE2.out]; rfl, Below.is_ext (by (repeat (first | with_reducible exact Below.rf _ | with_reducible exact World.below_ext _ _ | with_reducible refine Below.ex ?_ _ | with_reducible refine Below.al ?_ _ | with_reducible refine Below.setCell ?_ (by simp) _ | with_reducible refine Below.drew ?_)))⟩
    --END 1
  have d3 : ((pn : Int) == 0) = false := by simp [h3]
  have d3n : (pn == 0) = false := by simp [h3]
  by_cases h4 : dn = gn
  case neg =>
    --BEGIN 1
    have d4 : ((dn : Int) != (gn : Int)) = true := by simp; omega
    have d4n : (dn != gn) = true := by simp [h4]
    have HE2 : Hid (false = res) := by have := HRS.out; rw [if_pos (Or.inr (Or.inr (Or.inl h4)))] at this; exact this
    clear HRS h2 h3 h4
    go_enter Try.func16, Try.ntmps16
    go_wp2
    first | with_reducible refine wp_region_ext2 (by kernel_rfl) (by kernel_rfl) ?_ | refine wp_region_ext (by kernel_rfl) (by kernel_rfl) ?_
    repeat (go_big_quiet_step (fail))
    refine wpQuiet_nil ?_
    rintro _ ⟨z, rfl⟩
    go_wp2
    go_ret
    exact ⟨by rw [← HE2.out]; rfl, Below.is_ext (by (repeat (first | with_reducible exact Below.rf _ | with_reducible exact World.below_ext _ _ | with_reducible refine Below.ex ?_ _ | with_reducible refine Below.al ?_ _ | with_reducible refine Below.setCell ?_ (by simp) _ | with_reducible refine Below.drew ?_)))⟩
    --END 1
  have d4 : ((dn : Int) != (gn : Int)) = false := by simp [h4]
  have d4n : (dn != gn) = false := by simp [h4]
  by_cases h5 : t = q.t
  case neg =>
    --BEGIN 1
    have d5 : (t != q.t) = true := by simp [h5]
    have HE2 : Hid (false = res) := by have := HRS.out; rw [if_pos (Or.inr (Or.inr (Or.inr (Or.inl h5))))] at this; exact this
    clear HRS h2 h3 h4 h5
    go_enter Try.func16, Try.ntmps16
    go_wp2
    first | with_reducible refine wp_region_ext2 (by kernel_rfl) (by kernel_rfl) ?_ | refine wp_region_ext (by kernel_rfl) (by kernel_rfl) ?_
    repeat (go_big_quiet_step (fail))
    refine wpQuiet_nil ?_
    rintro _ ⟨z, rfl⟩
    go_wp2
    go_ret
    exact ⟨by rw [← HE2.out]; rfl, Below.is_ext (by (repeat (first | with_reducible exact Below.rf _ | with_reducible exact World.below_ext _ _ | with_reducible refine Below.ex ?_ _ | with_reducible refine Below.al ?_ _ | with_reducible refine Below.setCell ?_ (by simp) _ | with_reducible refine Below.drew ?_)))⟩
    --END 1
  have d5 : (t != q.t) = false := by simp [h5]
  have hi0 : 0 < path.length := by rw [HPN.out]; omega
  obtain ⟨bk, ba, hpo, hbk, e0⟩ := ints_at HP.out (Below.rf w) hi0
  rw [HX0.out, Nat.add_zero] at e0
  subst hpo
  clear hi0
  obtain ⟨pm, rfl⟩ : ∃ y, pn = y + 1 := ⟨pn - 1, by omega⟩
  have hd3 : ((pm : Int) + 1 == 0) = false := by simp; omega
  by_cases h6 : x0 = q.s
  case neg =>
    --BEGIN 1
    have d6 : (x0 != q.s) = true := by simp [h6]
    have HE2 : Hid (false = res) := by have := HRS.out; rw [if_pos (Or.inr (Or.inr (Or.inr (Or.inr h6))))] at this; exact this
    clear HRS h2 h3 h4 h5 h6
    go_enter Try.func16, Try.ntmps16
    go_wp2
    first | with_reducible refine wp_region_ext2 (by kernel_rfl) (by kernel_rfl) ?_ | refine wp_region_ext (by kernel_rfl) (by kernel_rfl) ?_
    repeat (go_big_quiet_step (fail))
    refine wpQuiet_nil ?_
    rintro _ ⟨z, rfl⟩
    go_wp2
    go_ret
    exact ⟨by rw [← HE2.out]; rfl, Below.is_ext (by (repeat (first | with_reducible exact Below.rf _ | with_reducible exact World.below_ext _ _ | with_reducible refine Below.ex ?_ _ | with_reducible refine Below.al ?_ _ | with_reducible refine Below.setCell ?_ (by simp) _ | with_reducible refine Below.drew ?_)))⟩
    --END 1
  have d6 : (x0 != q.s) = false := by simp [h6]
  subst h5 h4
  obtain ⟨jj, hjj⟩ : ∃ y, jmp F x0 (path.drop 1) = y := ⟨_, rfl⟩
  obtain ⟨dd, hdd⟩ : ∃ y, dwl path q.t (q.t + (pm : Int)) q.t q.gl done = y := ⟨_, rfl⟩
  obtain ⟨xl, hxl⟩ : ∃ y, path.getD pm 0 = y := ⟨_, rfl⟩
  obtain ⟨pk, hpk⟩ : ∃ y, F.park q.r = y := ⟨_, rfl⟩
  obtain ⟨vv, hvv⟩ : ∃ y, vrK T q.r q.t path 0 nb = y := ⟨_, rfl⟩
  obtain ⟨ff, hff⟩ : ∃ y, T.freeF q.r xl (q.t + (pm : Int)) = y := ⟨_, rfl⟩
  have HRS3 : Hid ((if jj = false then false
  else if dd = false then false
  else if xl ≠ pk.1 ∨ q.h < (pm : Int) ∨ (T.base : Int) + 256 ≤ q.t + pm then false
  else if vv = false then false else ff) = res) := by
    have := HRS.out
    rw [if_neg (by omega), show q.t + ((pm + 1 : Nat) : Int) - 1 = q.t + pm by omega, show pm + 1 - 1 = pm from rfl, show ((pm + 1 : Nat) : Int) - 1 = pm by omega, hjj, hdd, hxl, hpk, hvv, hff] at this
    exact this
  have HJJ : Hid (jmp F (path.getD 0 0) (path.drop 1) = jj) := by unfold Hid; rw [HX0.out]; exact hjj
  have HDD := hid hdd
  have HXL := hid hxl
  have HVV := hid hvv
  have PK : Hid (∀ w' : World, Below w.heap.size w w' → Calls Try.prog 20 #[.pointer (some ⟨fb, 0, none⟩), .int .i64 (q.r)] w' fun e w'' => e = .returned (.tuple #[.int .i64 (pk.1), .bool pk.2]) ∧ w'' = w') := fun w' h => by
    have := parking_any fb F lab q.r w' (HF.out.below h)
    rw [hpk] at this
    exact this
  have EN : Hid (∀ w' : World, Below w.heap.size w w' → Calls Try.prog 25 #[.pointer (some ⟨M.t, 0, none⟩)] w' fun e w'' => e = .returned (.int .i64 ((T.base : Int) + 256)) ∧ w'' = w') := fun w' h => end_any M T lab w' (HT.out.below h)
  have FF : Hid (∀ w' : World, Below w.heap.size w w' → Calls Try.prog 58 #[.pointer (some ⟨M.t, 0, none⟩), .int .i64 (q.r), .int .i64 (xl), .int .i64 (q.t + (pm : Int))] w' fun e w'' => e = .returned (.bool ff) ∧ ∃ z, w'' = w'.ext z) := fun w' h => by
    have := freeF_any M T lab q.r xl (q.t + (pm : Int)) w' (HT.out.below h)
    rw [hff] at this
    exact this
  clear HRS h2 h6 hjj hdd hxl hpk hvv hff
  --BEGIN 2
  go_enter Try.func16, Try.ntmps16
  go_wp2
  refine wp_nm fun w1 hw1 => ?_
  have hb1 : Below w.heap.size w w1 := by rw [hw1]; (repeat (first | with_reducible exact Below.rf _ | with_reducible exact World.below_ext _ _ | with_reducible refine Below.ex ?_ _ | with_reducible refine Below.al ?_ _ | with_reducible refine Below.setCell ?_ (by simp) _ | with_reducible refine Below.drew ?_))
  have hbk1 := Nat.lt_of_lt_of_le hbk hb1.size
  have e01 := (World.cell?_of_block (hb1.block bk hbk)).trans e0
  have HE1 : Hid (E16 w1 lab w.heap.size mb (w.heap.size + 1) (w.heap.size + 1 + 1) fb M F T q (.slice go dn gc) c x (.slice (some ⟨bk, ba, none⟩) (pm + 1) pc) (.slice dq dn dc) path done) := by
    unfold Hid
    refine ⟨HF.out.below hb1, HT.out.below hb1, HM.out.below hb1, ?_, by rw [hw1]; (simp <;> omega), ⟨?_, ?_, ?_, ?_, ?_, ?_, by rw [hw1]; (simp <;> omega)⟩, ⟨?_, ?_, ?_, ?_, ?_, by rw [hw1]; (simp <;> omega)⟩, HG.out.below hb1, HP.out.keptL (A := fun _ => False) (KeptL.of_below hb1) (fun _ h => h.elim), HD.out.keptL (A := fun _ => False) (KeptL.of_below hb1) (fun _ h => h.elim), ht, HR.out⟩
    all_goals (rw [hw1]; simp [go_sem, ↓IntWalk.iteOmega])
  have HB1 := hid hb1
  obtain ⟨b1, hsb1⟩ : ∃ y, w.heap.size + 1 + 1 = y := ⟨_, rfl⟩
  rw [hsb1] at HE1 ⊢
  obtain ⟨sb, hsb0⟩ : ∃ y, w.heap.size + 1 = y := ⟨_, rfl⟩
  rw [hsb0] at HE1 ⊢
  obtain ⟨mx, hsb⟩ : ∃ y, w.heap.size = y := ⟨_, rfl⟩
  rw [hsb] at HE1 ⊢
  have HSB := hid hsb
  clear hw1 hsb hsb0 hsb1 e0 hbk hb1
  have q0 := HE1.out.b.c0
  have q1 := HE1.out.b.c1
  have q2 := HE1.out.b.c2
  have q3 := HE1.out.b.c3
  have hbl := HE1.out.b.lt
  have s1 := HE1.out.bq.c1
  have s2 := HE1.out.bq.c2
  have s3 := HE1.out.bq.c3
  have hsl := HE1.out.bq.lt
  first | with_reducible refine wp_region_ext2 (by kernel_rfl) (by kernel_rfl) ?_ | refine wp_region_ext (by kernel_rfl) (by kernel_rfl) ?_
  repeat (go_big_quiet_step (fail))
  refine wpQuiet_nil ?_
  rintro w2 ⟨z, hw2⟩
  have hB2 : Hid (Below w1.heap.size w1 w2) := by unfold Hid; rw [hw2]; (repeat (first | with_reducible exact Below.rf _ | with_reducible exact World.below_ext _ _ | with_reducible refine Below.ex ?_ _ | with_reducible refine Below.al ?_ _ | with_reducible refine Below.setCell ?_ (by simp) _ | with_reducible refine Below.drew ?_))
  have HE2 := hid (HE1.out.below hB2.out)
  clear hw2 q0 q1 q2 q3 hbl s1 s2 s3 hsl d2 d3 d3n d4 d4n d5 d6 hd3 e01 hbk1
  have s2 := HE2.out.bq.c2
  have hsl := HE2.out.bq.lt
  go_wp2
  rw [show q.t + ((pm : Int) + 1) - 1 = q.t + (pm : Int) by omega]
  refine wp_mono (jm_loop w2 lab mx mb sb b1 fb pm pc (some ⟨bk, ba, none⟩) M F T q (.slice go dn gc) c x (.slice dq dn dc) path done HE2.out HPN.out (by omega) jj HJJ.out _ _ _ _ _ _ _ _ _ _ _ _ _ _ _ _ _ _ _ _ _ _ _ _ _ _ _ _ _ _ _ _ _ _ _ _ _ _ _ _ _ _ _ _ _ _ _ _ _ _ _ _ _ _ _ _ _ _ _ _ _ _ _ _ _ _ _ _ _ _ _ _ _ _ _ _ _ _ _ _ _ _ _ _ _ _ _ _ _ _ _ _ _ _ _ _ _ _ _ _ _ _ _ _ _ _ _ _ _ _ _ _ _ _ _ _ _ _ _ _ _ _ _ _ _ _ _ _ _ _ _ _ _ _ _ _ _ _ _ _ _ _ _ _ _ _ _ _ _ _ _ _ _ _ _ _ _ _ _ _ _ _ _ _ _ _ _ _ _ _ _ _ _ _ _ _ _ _ _ _ _ _ _ _ _ _ _ _ _ _ _ _ _ _ _ _ _ _ _ _ _ _ _ _ _ _ _ _ _ _ _ _ _ _ _ _ _ _ _ _ _ _ _ _ _ _ _ _ _ _ _ _ _ _ _ _ _ _ _ _ _ _ _ _ _ _ _ _ _ _ _ _ _ _ _ _ _ _ _ _ _ _ _) ?_
  intro e a' wL hE
  rcases hE with ⟨rfl, hB, hj, hE⟩ | ⟨rfl, hB, hj, hE⟩
  case inr =>
    obtain ⟨w3, rfl⟩ : ∃ y, y = wL := ⟨_, rfl⟩
    have HB3 : Hid (Below w.heap.size w w3) := HB1.out.trans (Below.mono (hB2.out.trans (hB.mono hB2.out.size)) HB1.out.size)
    have HE2 : Hid (false = res) := by have := HRS3.out; rw [if_pos hj] at this; exact this
    clear hB
    obtain ⟨UR, hE⟩ := hE
    obtain rfl := hE
    go_ret
    exact ⟨by rw [← HE2.out]; rfl, HB3.out.is_ext⟩
  obtain ⟨w3, rfl⟩ : ∃ y, y = wL := ⟨_, rfl⟩
  have hB3 : Hid (Below w1.heap.size w1 w3) := hB2.out.trans (hB.mono hB2.out.size)
  have HE3 := hid (HE1.out.below hB3.out)
  have HR4 : Hid ((if dd = false then false
    else if xl ≠ pk.1 ∨ q.h < (pm : Int) ∨ (T.base : Int) + 256 ≤ q.t + pm then false
    else if vv = false then false else ff) = res) := by
    have := HRS3.out
    rw [if_neg (by rw [hj]; simp)] at this
    exact this
  clear HE2 hB hB2 HRS3 hj s2 hsl
  obtain ⟨UJM, hE⟩ := hE
  obtain rfl := hE
  have s2 := HE3.out.bq.c2
  have s3 := HE3.out.bq.c3
  have hsl := HE3.out.bq.lt
  go_wp2
  refine wp_mono (gl_loop w3 lab mx mb sb b1 fb pm pc dn gc dc (some ⟨bk, ba, none⟩) go dq M F T q c x path done HE3.out HPN.out (by omega) HGN.out HDN.out HGO.out HDB.out dd HDD.out _ _ _ _ _ _ _ _ _ _ _ _ _ _ _ _ _ _ _ _ _ _ _ _ _ _ _ _ _ _ _ _ _ _ _ _ _ _ _ _ _ _ _ _ _ _ _ _ _ _ _ _ _ _ _ _ _ _ _ _ _ _ _ _ _ _ _ _ _ _ _ _ _ _ _ _ _ _ _ _ _ _ _ _ _ _ _ _ _ _ _ _ _ _ _ _ _ _ _ _ _ _ _ _ _ _ _ _ _ _ _ _ _ _ _ _ _ _ _ _ _ _ _ _ _ _ _ _ _ _ _ _ _ _ _ _ _ _ _ _ _ _ _ _ _ _ _ _ _ _ _ _ _ _ _ _ _ _ _ _ _ _ _ _ _ _ _ _ _ _ _ _ _ _ _ _ _ _ _ _ _ _ _ _ _ _ _ _ _ _ _ _ _ _ _ _ _ _ _ _ _ _ _ _ _ _ _ _ _ _ _ _ _ _ _ _ _ _ _ _ _ _ _ _ _ _ _ _ _ _ _ _ _ _ _ _ _ _ _ _ _ _ _ _ _ _ _ _ _ _ _ _ _ _ _ _ _ _ _ _) ?_
  intro e a' wL hE
  rcases hE with ⟨rfl, hB, hj, hE⟩ | ⟨rfl, hB, hj, hE⟩
  case inr =>
    obtain ⟨w4, rfl⟩ : ∃ y, y = wL := ⟨_, rfl⟩
    have HB3 : Hid (Below w.heap.size w w4) := HB1.out.trans (Below.mono (hB3.out.trans (hB.mono hB3.out.size)) HB1.out.size)
    have HE2 : Hid (false = res) := by have := HR4.out; rw [if_pos hj] at this; exact this
    clear hB
    obtain ⟨UR, hE⟩ := hE
    obtain rfl := hE
    go_ret
    exact ⟨by rw [← HE2.out]; rfl, HB3.out.is_ext⟩
  obtain ⟨w4, rfl⟩ : ∃ y, y = wL := ⟨_, rfl⟩
  have hB4 : Hid (Below w1.heap.size w1 w4) := hB3.out.trans (hB.mono hB3.out.size)
  have HE4 := hid (HE1.out.below hB4.out)
  have HR5 : Hid ((if xl ≠ pk.1 ∨ q.h < (pm : Int) ∨ (T.base : Int) + 256 ≤ q.t + pm then false
    else if vv = false then false else ff) = res) := by
    have := HR4.out
    rw [if_neg (by rw [hj]; simp)] at this
    exact this
  clear HE3 hB hB3 HR4 hj s2 s3 hsl
  obtain ⟨UGL, hE⟩ := hE
  obtain rfl := hE
  have hBB : Hid (Below w.heap.size w w4) := HB1.out.trans (hB4.out.mono HB1.out.size)
  have PK4 := hid (fun (w' : World) (h : Below w4.heap.size w4 w') => PK.out w' (hBB.out.trans (h.mono hBB.out.size)))
  have s0 := HE4.out.bq.c0
  have s4 := HE4.out.bq.c4
  have hsl := HE4.out.bq.lt
  have m0 := HE4.out.mc
  have hml := HE4.out.ml
  have n0 := HE4.out.m.c0
  have hnl := HE4.out.m.lt
  obtain ⟨pk1, pk2⟩ := pk
  simp only at HR5 PK4
  clear PK
  go_wp2
  first | with_reducible refine wp_region_ext2 (by kernel_rfl) (by kernel_rfl) ?_ | refine wp_region_ext (by kernel_rfl) (by kernel_rfl) ?_
  repeat (go_big_quiet_step ((go_at_call 20; exact Calls.ext_of_same (PK4.out _ (by (repeat (first | with_reducible exact Below.rf _ | with_reducible exact World.below_ext _ _ | with_reducible refine Below.ex ?_ _ | with_reducible refine Below.al ?_ _ | with_reducible refine Below.setCell ?_ (by simp) _ | with_reducible refine Below.drew ?_)))))))
  refine wpQuiet_nil ?_
  rintro w5 ⟨z, hw2⟩
  have hB5 : Hid (Below w1.heap.size w1 w5) := hB4.out.trans (Below.mono (by rw [hw2]; (repeat (first | with_reducible exact Below.rf _ | with_reducible exact World.below_ext _ _ | with_reducible refine Below.ex ?_ _ | with_reducible refine Below.al ?_ _ | with_reducible refine Below.setCell ?_ (by simp) _ | with_reducible refine Below.drew ?_))) hB4.out.size)
  have HE5 := hid (HE1.out.below hB5.out)
  clear hw2 PK4 s0 s4 hsl m0 hml n0 hnl HE4 hB4 hBB
  have hBB : Hid (Below w.heap.size w w5) := HB1.out.trans (hB5.out.mono HB1.out.size)
  have EN5 := hid (fun (w' : World) (h : Below w5.heap.size w5 w') => EN.out w' (hBB.out.trans (h.mono hBB.out.size)))
  have s4 := HE5.out.bq.c4
  have hsl := HE5.out.bq.lt
  have m0 := HE5.out.mc
  have hml := HE5.out.ml
  have n1 := HE5.out.m.c1
  have hnl := HE5.out.m.lt
  have q2 := HE5.out.b.c2
  have hbl := HE5.out.b.lt
  have hil : pm < path.length := by rw [HPN.out]; omega
  obtain ⟨bk', ba', hpo', hbk5, yl⟩ := ints_at HE5.out.p (Below.rf w5) hil
  simp only [Option.some.injEq, Addr.mk.injEq, and_true] at hpo'
  obtain ⟨rfl, rfl⟩ := hpo'
  rw [HXL.out] at yl
  clear hil
  by_cases h7 : xl = pk1
  case neg =>
    have d7 : (xl != pk1) = true := by simp [h7]
    have HE2 : Hid (false = res) := by have := HR5.out; rw [if_pos (Or.inl h7)] at this; exact this
    clear HR5 h7
    go_wp2
    go_ret
    exact ⟨by rw [← HE2.out]; rfl, hBB.out.is_ext⟩
  have d7 : (xl != pk1) = false := by simp [h7]
  by_cases h8 : q.h < (pm : Int)
  case pos =>
    have d8 : decide (q.h < (pm : Int)) = true := by simp [h8]
    have HE2 : Hid (false = res) := by have := HR5.out; rw [if_pos (Or.inr (Or.inl h8))] at this; exact this
    clear HR5 h7
    go_wp2
    go_ret
    exact ⟨by rw [← HE2.out]; rfl, hBB.out.is_ext⟩
  have d8 : decide (q.h < (pm : Int)) = false := by simp; omega
  by_cases h9 : (T.base : Int) + 256 ≤ q.t + pm
  case pos =>
    have d9 : decide ((T.base : Int) + 256 ≤ q.t + (pm : Int)) = true := by simp [h9]
    have HE2 : Hid (false = res) := by have := HR5.out; rw [if_pos (Or.inr (Or.inr h9))] at this; exact this
    clear HR5 h7
    go_wp2_with (first | (go_at_call 25; refine (EN5.out _ (by (repeat (first | with_reducible exact Below.rf _ | with_reducible exact World.below_ext _ _ | with_reducible refine Below.ex ?_ _ | with_reducible refine Below.al ?_ _ | with_reducible refine Below.setCell ?_ (by simp) _ | with_reducible refine Below.drew ?_)))).mono ?_; rintro e w' ⟨rfl, hw'⟩; obtain rfl := hw'.symm))
    go_ret
    exact ⟨by rw [← HE2.out]; rfl, hBB.out.is_ext⟩
  have d9 : decide ((T.base : Int) + 256 ≤ q.t + (pm : Int)) = false := by simp; omega
  have HR6 : Hid ((if vv = false then false else ff) = res) := by
    have := HR5.out
    rw [if_neg (by omega)] at this
    exact this
  clear HR5 h7 h8 h9
  go_wp2_with (first | (go_at_call 25; refine (EN5.out _ (by (repeat (first | with_reducible exact Below.rf _ | with_reducible exact World.below_ext _ _ | with_reducible refine Below.ex ?_ _ | with_reducible refine Below.al ?_ _ | with_reducible refine Below.setCell ?_ (by simp) _ | with_reducible refine Below.drew ?_)))).mono ?_; rintro e w' ⟨rfl, hw'⟩; obtain rfl := hw'.symm))
  clear EN5 s4 hsl m0 hml n1 hnl q2 hbl yl hbk5
  refine wp_mono (rb_loop w5 lab mx mb sb b1 fb pm pc nb (some ⟨bk, ba, none⟩) M F T q (.slice go dn gc) c x (.slice dq dn dc) path done HE5.out HPN.out (by omega) HNB.out vv HVV.out _ _ _ _ _ _ _ _ _ _ _ _ _ _ _ _ _ _ _ _ _ _ _ _ _ _ _ _ _ _ _ _ _ _ _ _ _ _ _ _ _ _ _ _ _ _ _ _ _ _ _ _ _ _ _ _ _ _ _ _ _ _ _ _ _ _ _ _ _ _ _ _ _ _ _ _ _ _ _ _ _ _ _ _ _ _ _ _ _ _ _ _ _ _ _ _ _ _ _ _ _ _ _ _ _ _ _ _ _ _ _ _ _ _ _ _ _ _ _ _ _ _ _ _ _ _ _ _ _ _ _ _ _ _ _ _ _ _ _ _ _ _ _ _ _ _ _ _ _ _ _ _ _ _ _ _ _ _ _ _ _ _ _ _ _ _ _ _ _ _ _ _ _ _ _ _ _ _ _ _ _ _ _ _ _ _ _ _ _ _ _ _ _ _ _ _ _ _ _ _ _ _ _ _ _ _ _ _ _ _ _ _ _ _ _ _ _ _ _ _ _ _ _ _ _ _ _ _ _ _ _ _ _ _ _ _ _ _ _ _ _ _ _ _ _ _ _ _ _ _ _ _ _ _ _ _ _ _ _ _ _ _) ?_
  intro e a' wL hE
  rcases hE with ⟨rfl, hB, hj, hE⟩ | ⟨rfl, hB, hj, hE⟩
  case inr =>
    obtain ⟨w6, rfl⟩ : ∃ y, y = wL := ⟨_, rfl⟩
    have HB3 : Hid (Below w.heap.size w w6) := hBB.out.trans (hB.mono hBB.out.size)
    have HE2 : Hid (false = res) := by have := HR6.out; rw [if_pos hj] at this; exact this
    clear hB
    obtain ⟨UR, hE⟩ := hE
    obtain rfl := hE
    go_ret
    exact ⟨by rw [← HE2.out]; rfl, HB3.out.is_ext⟩
  obtain ⟨w6, rfl⟩ : ∃ y, y = wL := ⟨_, rfl⟩
  have HB6 : Hid (Below w.heap.size w w6) := hBB.out.trans (hB.mono hBB.out.size)
  have HE6 := hid (HE5.out.below hB)
  have HE2 : Hid (ff = res) := by
    have := HR6.out
    rw [if_neg (by rw [hj]; simp)] at this
    exact this
  clear HE5 hB hBB HR6 hj hB5
  obtain ⟨URB, hE⟩ := hE
  obtain rfl := hE
  have FF6 := hid (fun (w' : World) (h : Below w6.heap.size w6 w') => FF.out w' (HB6.out.trans (h.mono HB6.out.size)))
  have s0 := HE6.out.bq.c0
  have hsl := HE6.out.bq.lt
  have m0 := HE6.out.mc
  have hml := HE6.out.ml
  have n1 := HE6.out.m.c1
  have hnl := HE6.out.m.lt
  have q2 := HE6.out.b.c2
  have hbl := HE6.out.b.lt
  have hil : pm < path.length := by rw [HPN.out]; omega
  obtain ⟨bk', ba', hpo', hbk5, yl⟩ := ints_at HE6.out.p (Below.rf w6) hil
  simp only [Option.some.injEq, Addr.mk.injEq, and_true] at hpo'
  obtain ⟨rfl, rfl⟩ := hpo'
  rw [HXL.out] at yl
  clear hil HE6
  go_wp2
  first | with_reducible refine wp_region_ext2 (by kernel_rfl) (by kernel_rfl) ?_ | refine wp_region_ext (by kernel_rfl) (by kernel_rfl) ?_
  repeat (go_big_quiet_step ((go_at_call 58; with_reducible exact Calls.ext_of (FF6.out _ (by (repeat (first | with_reducible exact Below.rf _ | with_reducible exact World.below_ext _ _ | with_reducible refine Below.ex ?_ _ | with_reducible refine Below.al ?_ _ | with_reducible refine Below.setCell ?_ (by simp) _ | with_reducible refine Below.drew ?_)))))))
  refine wpQuiet_nil ?_
  rintro w7 ⟨z, hw2⟩
  go_wp2
  go_ret
  exact ⟨by rw [← HE2.out]; rfl, (HB6.out.trans (Below.mono (by rw [hw2]; (repeat (first | with_reducible exact Below.rf _ | with_reducible exact World.below_ext _ _ | with_reducible refine Below.ex ?_ _ | with_reducible refine Below.al ?_ _ | with_reducible refine Below.setCell ?_ (by simp) _ | with_reducible refine Below.drew ?_))) HB6.out.size)).is_ext⟩
  --END 2
end Go.Proofs.Qxb6500716a
