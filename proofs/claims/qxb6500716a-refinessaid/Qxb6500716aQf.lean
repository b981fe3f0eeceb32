/-
  begin: the walk.
-/
import Derived.Test.Qxb6500716aQe
namespace Go.Proofs.Qxb6500716a
open Go.RowKit Go.Maps
set_option linter.unusedSimpArgs false
set_option linter.unusedVariables false
set_option maxRecDepth 20000
set_option maxHeartbeats 4000000

def begL (x : Nat) : Prop := x = 5 ∨ x = 8
def beginPost (lab : Nat → Nat) (M : TM) (T : TS) (N : PM) (S : PS) (fb : Nat) (F : FS) (q : Rq) (gv : Value) (w : World) (e : Ending) (w' : World) : Prop :=
  ∃ (lab' : Nat → Nat) (N' : PM) (rb : Nat) (tv av : Value), e = .returned (.pointer (some ⟨rb, 0, none⟩)) ∧ Al w' lab' M T N' (S.beg F T q) 0 rb fb F q gv tv av (F.park q.r).1 (q.hz T) ∧ N'.p = N.p ∧ (∀ k, k < w.heap.size → lab' k = lab k) ∧ KeptL lab begL w w'
/-- A run before its estimate is laid. -/
def rcell0 (p : Nat) (q : Rq) (gv : Value) (bay hz : Int) (k : Nat) : Nat → Value
  | 0 => .pointer (some ⟨p, 0, none⟩)
  | 1 => .int .i64 (q.r)
  | 2 => .int .i64 (q.s)
  | 3 => .int .i64 (q.t)
  | 4 => gv
  | 5 => .int .i64 (q.h)
  | 6 => .int .i64 (q.m)
  | 7 => .pointer none
  | 8 => .slice none 0 0
  | 9 => .slice none 0 0
  | 10 => .int .i64 (bay)
  | 11 => .int .i64 ((k : Int) + 1)
  | _ => .int .i64 (hz)
def qcell (q : Rq) (gv : Value) : Nat → Value
  | 0 => .int .i64 (q.r)
  | 1 => .int .i64 (q.s)
  | 2 => .int .i64 (q.t)
  | 3 => gv
  | 4 => .int .i64 (q.h)
  | _ => .int .i64 (q.m)
theorem LAt.cut {w : World} {lab : Nat → Nat} {tag sz n : Nat} {ao : Option Addr} {cap : Nat} {vs : List Value} (h : LAt w lab tag sz (.slice ao n cap) n vs) : LAt w lab tag sz (.slice ao 0 cap) 0 [] := by
  obtain ⟨ao', cap', h1, h2, h3⟩ := h.ex
  simp only [Value.slice.injEq] at h1
  obtain ⟨rfl, -, rfl⟩ := h1
  refine ⟨by simp, ao, cap, rfl, Nat.zero_le _, or_map h3 ?_⟩
  rintro ⟨b, e, hl, hp⟩
  exact ⟨b, e, hl, ⟨hp.lt, hp.has, hp.fz, fun j u hj => by simp at hj, by simp⟩⟩
theorem slice_h4 (ao : Option Addr) (len cap : Nat) (hb : (ao = none ∧ cap = 0) ∨ ∃ b, ao = some ⟨b, 0, none⟩) (w : World) : (Instr.sliceAt 104 (.slice ao len cap) none (some (.int .i64 (0))) none).run Try.prog w = .ok (.slice ao 0 cap) w := by
  have he : (Try.prog).elem 104 = 143 := by simp [Program.elem, Try.underlying104]
  have ht' : (Try.prog).underlying 104 = some (.slice ((Try.prog).elem 104)) := by rw [he]; exact Try.underlying104
  have hsz : (sizeOf ((Try.prog).elem 104)).run Try.prog w = .ok 4 w := by rw [he]; kernel_rfl
  rw [run_sliceAt_slice _ _ _ _ _ _ ht', run_slice_h _ _ _ _ _ ht' _ _ (by omega) (by omega)]
  rw [hsz]
  rcases hb with ⟨rfl, rfl⟩ | ⟨b, rfl⟩
  · simp [Result.andThen, sliced]
  · simp only [Result.andThen, sliced]
    by_cases hc : cap = 0
    · simp [hc]
    · simp [hc, Addr.add_lit]

theorem begin_fin {w w9 : World} {lab l6 : Nat → Nat} {M : TM} {T : TS} {N : PM} {S : PS} {fb rb : Nat} {F : FS} {q : Rq} {gv tv av hv : Value} {kb mb ms : Nat}
    (hF : FAt w lab fb F) (hT : TAt w lab M T) (hg : GAt w lab gv q.gl) (hp : Blk w9 N.p 16 (pcell ⟨N.p, .slice none 0 0, hv, kb, mb⟩ fb M.t S.st)) (hn : LAt w9 l6 7 4 hv 0 []) (hk : KAt w9 l6 kb mb ms 0 (fun _ => False)) (hlp : lab N.p = 5) (hpl : N.p < w.heap.size)
    (hr : Blk w9 rb 13 (rcell N.p fb q gv tv av (F.park q.r).1 (q.hz T))) (hrl : l6 rb = 0) (ht : Ints w9 l6 tv (etl (F.park q.r).1 q.gl)) (ha : Ints w9 l6 av (eal F (F.park q.r).1 q.gl))
    (hl : ∀ k, k < w.heap.size → l6 k = lab k) (hK : KeptL lab begL w w9) (hms : (S.beg F T q).ms = ms) : beginPost lab M T N S fb F q gv w (.returned (.pointer (some ⟨rb, 0, none⟩))) w9 := by
  have hK' := hK.lab hl
  have hz : ∀ b, b < w.heap.size → (lab b = 0 ∨ 10 ≤ lab b) → (l6 b = 0 ∨ 10 ≤ l6 b) := fun b hb hx => by rw [hl b hb]; exact hx
  refine ⟨l6, ⟨N.p, .slice none 0 0, hv, kb, mb⟩, rb, tv, av, rfl, ⟨(hF.relab hz).keptL hK' (fun x hx => by unfold begL at hx; omega), (hT.relab hl).keptL hK' (by unfold begL; omega) (by unfold begL; omega) (by unfold begL; omega), ⟨hp, LAt.nil _ _ _ _, hn, ?_, (hl _ hpl).trans hlp⟩, ⟨hr, Or.inl hrl, (hg.relab hz).keptL hK' (fun x hx => by unfold begL at hx; omega), ht, ha⟩⟩, rfl, hl, hK⟩
  rw [hms]
  rw [seen_nil] at hk
  exact hk
/-- The state of the walk behind the marks. -/
structure BgS (lab : Nat → Nat) (w : World) (N : PM) (S : PS) (fb tb rb : Nat) (F : FS) (T : TS) (q : Rq) (gv tv av : Value) (w6 : World) (l6 : Nat → Nat) (nv : Value) (nn : Nat) (vs : List Value) (kb mb ms : Nat) : Prop where
  p : ∃ hv, Blk w6 N.p 16 (pcell ⟨N.p, hv, nv, kb, mb⟩ fb tb S.st)
  n : LAt w6 l6 7 4 nv nn vs
  k : KAt w6 l6 kb mb ms 0 (fun _ => False)
  r : Blk w6 rb 13 (rcell N.p fb q gv tv av (F.park q.r).1 (q.hz T))
  rl : l6 rb = 0
  lp : l6 N.p = 5
  t : Ints w6 l6 tv (etl (F.park q.r).1 q.gl)
  a : Ints w6 l6 av (eal F (F.park q.r).1 q.gl)
  g : ∀ k, k < w.heap.size → l6 k = lab k
  kk : KeptL lab begL w w6
theorem BgS.set {lab : Nat → Nat} {w : World} {N : PM} {S : PS} {fb tb rb : Nat} {F : FS} {T : TS} {q : Rq} {gv tv av : Value} {w6 : World} {l6 : Nat → Nat} {nv : Value} {nn : Nat} {vs : List Value} {kb mb ms : Nat} (h : BgS lab w N S fb tb rb F T q gv tv av w6 l6 nv nn vs kb mb ms) (hpl : N.p < w.heap.size) (i : Nat) (v nv' : Value) (nn' : Nat) (vs' : List Value)
    (hf : ∀ hv, Blk w6 N.p 16 (pcell ⟨N.p, hv, nv, kb, mb⟩ fb tb S.st) → ∃ hv', Blk (w6.setCell ⟨N.p, i, none⟩ v) N.p 16 (pcell ⟨N.p, hv', nv', kb, mb⟩ fb tb S.st)) (hn : LAt w6 l6 7 4 nv' nn' vs') : BgS lab w N S fb tb rb F T q gv tv av (w6.setCell ⟨N.p, i, none⟩ v) l6 nv' nn' vs' kb mb ms := by
  have hk : KeptL l6 (fun x => x = 5) w6 (w6.setCell ⟨N.p, i, none⟩ v) := (KeptL.refl _ _ _).set h.lp _
  obtain ⟨hv, hp⟩ := h.p
  refine ⟨hf hv hp, hn.keptL hk (by omega), h.k.keptL hk (by omega) (by omega), h.r.keptL hk (by rw [h.rl]; omega), h.rl, h.lp, h.t.keptL hk (fun x hx => by omega), h.a.keptL hk (fun x hx => by omega), h.g, h.kk.trans' (hk.mono (fun x hx => by unfold begL; omega)) (fun i hi => h.g i hi)⟩
set_option maxHeartbeats 40000000 in
theorem begin_any (M : TM) (T : TS) (N : PM) (S : PS) (n fb : Nat) (F : FS) (lab : Nat → Nat) (q : Rq) (gv : Value) (w : World) (hF : FAt w lab fb F) (hT : TAt w lab M T) (hP : PAt w lab N fb M.t S n) (hg : GAt w lab gv q.gl) (hO : Rok F T q (F.park q.r).1 (q.hz T)) (hms : S.ms ≤ 4000000) :
    Calls Try.prog 85 #[.pointer (some ⟨N.p, 0, none⟩), .agg #[.int .i64 ((q).r), .int .i64 ((q).s), .int .i64 ((q).t), gv, .int .i64 ((q).h), .int .i64 ((q).m)]] w (beginPost lab M T N S fb F q gv w) := by
  have HF := hid hF
  have HT := hid hT
  have HP := hid hP
  have HG := hid hg
  have c0 := hP.c0
  have c1 := hP.c1
  have hpl := hP.bp.lt
  have hbb := hT.bd.base
  have hTt := hO.t
  have hhz := hO.hz
  have hn384 := hF.ok.n
  have hk16 := hO.gok.1
  have hqh := hO.h
  obtain ⟨go, gc, hgv, -⟩ := hg.ex
  have PK := hid (fun (w' : World) (h : Below w.heap.size w w') => parking_any fb F lab q.r w' (hF.below h))
  have EN := hid (fun (w' : World) (h : Below w.heap.size w w') => end_any M T lab w' (hT.below h))
  have NE := hid (fun (w' : World) (h : Below w.heap.size w w') => newEst_any fb F lab gv (F.park q.r).1 q.gl w' (hF.below h) (hg.below h) hO.gok hO.bay)
  have CL := hid (fun (w' : World) (h : Below w.heap.size w w') => cells_any fb F lab w' (hF.below h))
  obtain ⟨bay, hbay⟩ : ∃ y, (F.park q.r).1 = y := ⟨_, rfl⟩
  obtain ⟨bb, hbb2⟩ : ∃ y, (F.park q.r).2 = y := ⟨_, rfl⟩
  obtain ⟨hz, hhz2⟩ : ∃ y, q.hz T = y := ⟨_, rfl⟩
  rw [hbay, hbb2] at PK
  rw [hbay] at NE
  rw [hhz2] at hhz
  have hmin := fun (w : World) (ty : TypeId) => run_min w q.h ((T.base : Int) + 256 - 1 - q.t) hz (by rw [← hhz2]; unfold Rq.hz; congr 1; omega) ty
  obtain ⟨k, hk⟩ : ∃ k, q.gl.length = k := ⟨_, rfl⟩
  rw [hk] at hk16 hgv
  subst hgv
  have HBAY := hid hbay
  have HHZ := hid hhz2
  have HK := hid hk
  have HOK := hid hO
  have HBE : Hid ((S.beg F T q).ms = if (S.ms : Int) < (hz + 1) * ((k : Int) + 1) * (F.n : Int) then ((hz + 1) * ((k : Int) + 1) * (F.n : Int)).toNat else S.ms) := by
    unfold Hid PS.beg Rq.states
    rw [hhz2, hk]
  clear hF hT hP hg hO hbay hbb2 hhz2 hk
  go_enter Try.func85, Try.ntmps85
  go_wp2
  first | with_reducible refine wp_region_ext2 (by kernel_rfl) (by kernel_rfl) ?_ | refine wp_region_ext (by kernel_rfl) (by kernel_rfl) ?_
  repeat (go_big_quiet_step ((go_at_call 20; exact Calls.ext_of_same (PK.out _ (by (repeat (first | with_reducible exact Below.rf _ | with_reducible exact World.below_ext _ _ | with_reducible refine Below.ex ?_ _ | with_reducible refine Below.al ?_ _ | with_reducible refine Below.setCell ?_ (by simp) _ | with_reducible refine Below.drew ?_)))))))
  refine wpQuiet_nil ?_
  rintro _ ⟨z, rfl⟩
  go_wp2
  first | with_reducible refine wp_region_tail_ext2 20 (by kernel_rfl) (by kernel_rfl) ?_ | refine wp_region_tail_ext 20 (by kernel_rfl) (by kernel_rfl) ?_
  simp only [List.take_succ_cons, List.take_zero, List.drop_succ_cons, List.drop_zero]
  repeat (go_big_quiet_step ((go_at_call 25; exact Calls.ext_of_same (EN.out _ (by (repeat (first | with_reducible exact Below.rf _ | with_reducible exact World.below_ext _ _ | with_reducible refine Below.ex ?_ _ | with_reducible refine Below.al ?_ _ | with_reducible refine Below.setCell ?_ (by simp) _ | with_reducible refine Below.drew ?_)))))))
  refine wpQuiet_nil ?_
  rintro _ ⟨z, rfl⟩
  go_wp2
  refine wp_nm fun w2 hw2 => ?_
  have B2 : Below w.heap.size w w2 := by rw [hw2]; (repeat (first | with_reducible exact Below.rf _ | with_reducible exact World.below_ext _ _ | with_reducible refine Below.ex ?_ _ | with_reducible refine Below.al ?_ _ | with_reducible refine Below.setCell ?_ (by simp) _ | with_reducible refine Below.drew ?_))
  have R2 : Blk w2 (w.heap.size + 1 + z.heap.size) 13 (rcell0 N.p q (.slice go k gc) bay hz k) := by
    rw [hw2]
    refine ⟨by (simp <;> omega), fun i hi => ?_, fun i hi => by simp [go_sem, ↓IntWalk.iteOmega]⟩
    rcases (by omega : i = 0 ∨ i = 1 ∨ i = 2 ∨ i = 3 ∨ i = 4 ∨ i = 5 ∨ i = 6 ∨ i = 7 ∨ i = 8 ∨ i = 9 ∨ i = 10 ∨ i = 11 ∨ i = 12) with rfl | rfl | rfl | rfl | rfl | rfl | rfl | rfl | rfl | rfl | rfl | rfl | rfl <;> simp [go_sem, ↓IntWalk.iteOmega, rcell0]
  have x3 : w2.cell? ⟨w.heap.size, 3, none⟩ = some (.slice go k gc) := by rw [hw2]; simp [go_sem, ↓IntWalk.iteOmega]
  have hrb0 : w.heap.size < w.heap.size + 1 + z.heap.size := by omega
  obtain ⟨rb, hrb⟩ : ∃ y, w.heap.size + 1 + z.heap.size = y := ⟨_, rfl⟩
  rw [hrb] at R2 hrb0 ⊢
  have hxl : w.heap.size < w2.heap.size := by rw [hw2]; simp; omega
  clear hw2 hrb
  have c0' := (World.cell?_of_block (B2.block N.p hpl)).trans c0
  have hpl2 : N.p < w2.heap.size := Nat.lt_of_lt_of_le hpl B2.size
  have r10 : w2.cell? ⟨rb, 10, none⟩ = some (.int .i64 (bay)) := R2.is 10 (by omega)
  have hrl := R2.lt
  have HB2 := hid B2
  have HR2 := hid R2
  have NE2 := hid (fun (w' : World) (h : Below w2.heap.size w2 w') => NE.out w' (HB2.out.trans (h.mono HB2.out.size)))
  clear c0 c1 B2 R2 NE PK EN
  refine wp_region_tree 11 (fun w' => w'.cell? ⟨N.p, 0, none⟩ = some (.pointer (some ⟨fb, 0, none⟩)) ∧ w'.cell? ⟨w.heap.size, 3, none⟩ = some (.slice go k gc) ∧ w'.cell? ⟨rb, 10, none⟩ = some (.int .i64 (bay))) (.q 0 false (.q 1 false (.q 2 false (.q 3 false (.q 4 true (.q 5 false (.q 6 true (.q 7 false (.q 8 false (.q 9 false (.q 10 true (.one 11 false (.q 12 false (.q 13 false (.one 14 false .nil))))))))))))))) (by kernel_rfl) (by kernel_rfl) (by kernel_rfl) ?_ ?_
  · simp [go_sem, ↓IntWalk.iteOmega, *]
  repeat (first | (refine wpTr_qf (v := ?_) rfl rfl ?_ ?_; rotate_left; focus (intro w; go_simp; (try (with_reducible rfl)); done); try simp only [List.getElem_toArray, List.getElem_cons_zero, List.getElem_cons_succ, Act.put, List.setIfInBounds_toArray, List.set_cons_zero, List.set_cons_succ]) | (refine wpTr_qt (v := ?_) rfl rfl ?_ ?_; rotate_left; focus (intro w hSw; (try dsimp only at hSw); go_simp; (try (with_reducible rfl)); done); try simp only [List.getElem_toArray, List.getElem_cons_zero, List.getElem_cons_succ, Act.put, List.setIfInBounds_toArray, List.set_cons_zero, List.set_cons_succ]))
  refine wpTr_one rfl rfl (fun K hK => ?_)
  go_simp
  go_at_call 60
  refine (NE2.out _ (by (repeat (first | with_reducible exact Below.rf _ | with_reducible exact World.below_ext _ _ | with_reducible refine Below.ex ?_ _ | with_reducible refine Below.al ?_ _ | with_reducible refine Below.setCell ?_ (by simp) _ | with_reducible refine Below.drew ?_)))).mono ?_
  rintro e w4 ⟨tv, av, rfl, hb4, hi4⟩
  refine hK.out _ _ (fun h => by cases h) ?_
  clear hK K
  replace hb4 : Below w2.heap.size w2 w4 := ((Below.rf w2).drew).trans hb4
  have R4 := HR2.out.below hb4
  obtain ⟨ht0, ha0⟩ := hi4 (fun _ => 0) (fun _ _ => rfl)
  obtain ⟨to, tc, rfl, -⟩ := ht0.ex
  obtain ⟨ao, ac, rfl, -⟩ := ha0.ex
  have HI4 := hid hi4
  have HB4 := hid hb4
  have HR4 := hid R4
  have q7 : w4.cell? ⟨rb, 7, none⟩ = some (.pointer none) := R4.is 7 (by omega)
  have q8 : w4.cell? ⟨rb, 8, none⟩ = some (.slice none 0 0) := R4.is 8 (by omega)
  have q9 : w4.cell? ⟨rb, 9, none⟩ = some (.slice none 0 0) := R4.is 9 (by omega)
  have z7 := R4.fz 7 (by omega)
  have z8 := R4.fz 8 (by omega)
  have z9 := R4.fz 9 (by omega)
  have l4 := R4.lt
  clear R4 ht0 ha0 hi4 hb4 x3 c0' r10
  repeat (first | (refine wpTr_qf (v := ?_) rfl rfl ?_ ?_; rotate_left; focus (intro w; go_simp; (try (with_reducible rfl)); done); try simp only [List.getElem_toArray, List.getElem_cons_zero, List.getElem_cons_succ, Act.put, List.setIfInBounds_toArray, List.set_cons_zero, List.set_cons_succ]) | (refine wpTr_qt (v := ?_) rfl rfl ?_ ?_; rotate_left; focus (intro w hSw; (try dsimp only at hSw); go_simp; (try (with_reducible rfl)); done); try simp only [List.getElem_toArray, List.getElem_cons_zero, List.getElem_cons_succ, Act.put, List.setIfInBounds_toArray, List.set_cons_zero, List.set_cons_succ]))
  refine wpTr_one rfl rfl (fun K hK => ?_)
  go_simp
  refine hK.out _ _ (fun h => by cases h) ?_
  clear hK K
  refine wpTr_nil ?_
  refine NoPanic.normal ?_
  go_wp2
  refine wp_nm fun w5 hw5 => ?_
  have hk5 : KeptBut rb w4 w5 := by
    rw [hw5]
    refine KeptBut.set ?_ (Or.inl (by rfl)) _
    refine KeptBut.set ?_ (Or.inl (by rfl)) _
    refine KeptBut.set ?_ (Or.inl (by rfl)) _
    exact KeptBut.refl _ _
  have R5 : Blk w5 rb 13 (rcell N.p fb q (.slice go k gc) (.slice to (etl bay q.gl).length tc) (.slice ao (eal F bay q.gl).length ac) bay hz) := by
    rw [hw5]
    refine (((HR4.out.set 7 _ (by omega)).set 8 _ (by omega)).set 9 _ (by omega)).congr (fun i hi => ?_)
    rcases (by omega : i = 0 ∨ i = 1 ∨ i = 2 ∨ i = 3 ∨ i = 4 ∨ i = 5 ∨ i = 6 ∨ i = 7 ∨ i = 8 ∨ i = 9 ∨ i = 10 ∨ i = 11 ∨ i = 12) with rfl | rfl | rfl | rfl | rfl | rfl | rfl | rfl | rfl | rfl | rfl | rfl | rfl <;> first | rfl | simp [upd, rcell, rcell0, HK.out]
  have B5 : Below w.heap.size w w5 := by
    rw [hw5]
    refine Below.setCell ?_ (by simp; omega) _
    refine Below.setCell ?_ (by simp; omega) _
    refine Below.setCell ?_ (by simp; omega) _
    exact HB2.out.trans (HB4.out.mono HB2.out.size)
  have hs2 := HB2.out.size
  have I5 : Ints w5 (fun b => if b < w.heap.size then lab b else 0) (.slice to (etl bay q.gl).length tc) (etl bay q.gl) ∧ Ints w5 (fun b => if b < w.heap.size then lab b else 0) (.slice ao (eal F bay q.gl).length ac) (eal F bay q.gl) := by
    have g1 := HI4.out (fun b => if b = rb then 5 else if b < w.heap.size then lab b else 0) (fun j hj => by simp only [World.size_drew] at hj; rw [if_neg (by omega), if_neg (by omega)])
    have k1 := KeptL.of_but (lab := fun b => if b = rb then 5 else if b < w.heap.size then lab b else 0) (A := fun x => x = 5) hk5 (by simp)
    have rl : ∀ b, b < w5.heap.size → ((if b = rb then 5 else if b < w.heap.size then lab b else 0) = 0 ∨ 10 ≤ (if b = rb then 5 else if b < w.heap.size then lab b else 0)) → ((if b < w.heap.size then lab b else 0) = 0 ∨ 10 ≤ (if b < w.heap.size then lab b else 0)) := fun b _ hx => by
      by_cases e : b = rb
      · rw [if_pos e] at hx; omega
      · rw [if_neg e] at hx; exact hx
    exact ⟨(g1.1.keptL k1 (fun x hx => by omega)).relab rl, (g1.2.keptL k1 (fun x hx => by omega)).relab rl⟩
  have hL5 : ∀ j, j < w.heap.size → (fun b => if b < w.heap.size then lab b else 0) j = lab j := fun j hj => if_pos hj
  have P5 := (HP.out.relab hL5).below B5
  have hLr : (fun b => if b < w.heap.size then lab b else 0) rb = 0 := if_neg (by omega)
  obtain ⟨L5, hL5e⟩ : ∃ y, (fun b => if b < w.heap.size then lab b else 0) = y := ⟨_, rfl⟩
  rw [hL5e] at I5 hL5 P5 hLr
  clear hw5 hk5 hL5e q7 q8 q9 z7 z8 z9 l4 HI4 HR4 HB4 HR2 NE2 hrl hpl2 hxl hs2
  generalize (etl bay q.gl).length = tl at *
  generalize (eal F bay q.gl).length = al at *
  have CL5 := hid (fun (w' : World) (h : Below w5.heap.size w5 w') => CL.out w' (B5.trans (h.mono B5.size)))
  have MZ := hid (fun (w' : World) (h : Below w5.heap.size w5 w') => msize_any N.kb N.mb S.ms n (fun x => S.seen x = true) L5 w' (P5.below h).bk)
  have MC := hid (fun (w' : World) (h : Below w5.heap.size w5 w') => mclr_any N.kb N.mb S.ms n (fun x => S.seen x = true) L5 w' (P5.below h).bk)
  have r12 : w5.cell? ⟨rb, 12, none⟩ = some (.int .i64 (hz)) := R5.is 12 (by omega)
  have r11 : w5.cell? ⟨rb, 11, none⟩ = some (.int .i64 ((k : Int) + 1)) := by
    have := R5.is 11 (by omega)
    rw [this]
    show some (Value.int .i64 ((q.gl.length : Int) + 1)) = _
    rw [HK.out]
  have c0 := P5.c0
  have c3 := P5.c3
  have hpl5 := P5.bp.lt
  have hrl := R5.lt
  obtain ⟨no, nc, hnv⟩ := P5.bn.val
  have KS := hid (And.intro B5 (And.intro R5 (And.intro I5 (And.intro hL5 (And.intro P5 hLr)))))
  have m1 : 0 ≤ (hz + 1) * ((k : Int) + 1) ∧ (hz + 1) * ((k : Int) + 1) ≤ 256 * 17 := ⟨Int.mul_nonneg (by omega) (by omega), Int.mul_le_mul (by omega) (by omega) (by omega) (by omega)⟩
  have m2 : 0 ≤ (hz + 1) * ((k : Int) + 1) * (F.n : Int) ∧ (hz + 1) * ((k : Int) + 1) * (F.n : Int) ≤ 256 * 17 * 384 := ⟨Int.mul_nonneg (by omega) (by omega), Int.mul_le_mul (by omega) (by omega) (by omega) (by omega)⟩
  have HNV := hid hnv
  clear B5 R5 I5 hL5 P5 hLr HB2 CL hnv
  first | with_reducible refine wp_region_ext2 (by kernel_rfl) (by kernel_rfl) ?_ | refine wp_region_ext (by kernel_rfl) (by kernel_rfl) ?_
  repeat (go_big_quiet_step ((go_at_call 30; exact Calls.ext_of_same (CL5.out _ (by (repeat (first | with_reducible exact Below.rf _ | with_reducible exact World.below_ext _ _ | with_reducible refine Below.ex ?_ _ | with_reducible refine Below.al ?_ _ | with_reducible refine Below.setCell ?_ (by simp) _ | with_reducible refine Below.drew ?_)))))))
  refine wpQuiet_nil ?_
  rintro _ ⟨z, rfl⟩
  obtain ⟨sts, hsts⟩ : ∃ y, (hz + 1) * ((k : Int) + 1) * (F.n : Int) = y := ⟨_, rfl⟩
  rw [hsts] at m2 HBE ⊢
  clear hsts m1
  by_cases gst : (S.ms : Int) < sts
  · rw [if_pos gst] at HBE
    obtain ⟨sn, rfl⟩ : ∃ sn : Nat, sts = sn := ⟨sts.toNat, by omega⟩
    rw [Int.toNat_natCast] at HBE
    have MN := hid (fun (w' : World) => mnew_any sn w')
    go_wp2_with (first | (go_at_call 92; refine (MZ.out _ (by (repeat (first | with_reducible exact Below.rf _ | with_reducible exact World.below_ext _ _ | with_reducible refine Below.ex ?_ _ | with_reducible refine Below.al ?_ _ | with_reducible refine Below.setCell ?_ (by simp) _ | with_reducible refine Below.drew ?_)))).mono ?_; rintro e w1 ⟨rfl, rfl⟩) | (go_at_call 66; refine hold ?_))
    unfold Hid
    refine (MN.out _).mono ?_
    rintro e w6 ⟨mk, mm, rfl, h1, h2, h3, hb6, hk6⟩
    obtain ⟨B5, R5, I5, hL5, P5, hLr⟩ := KS.out
    have hB56 : Below w5.heap.size w5 w6 := (World.below_ext w5 z).trans (hb6.mono (World.below_ext w5 z).size)
    have hs5 := B5.size
    have hsz := (World.below_ext w5 z).size
    have hl6 : ∀ j, j < w5.heap.size → (fun b => if b = mk then 8 else if b = mm then 9 else L5 b) j = L5 j := fun j hj => by simp only; rw [if_neg (by omega), if_neg (by omega)]
    have hK6 := hk6 (fun b => if b = mk then 8 else if b = mm then 9 else L5 b) (if_pos rfl) (by simp [Ne.symm h3])
    obtain ⟨l6, hl6e⟩ : ∃ y, (fun b => if b = mk then 8 else if b = mm then 9 else L5 b) = y := ⟨_, rfl⟩
    rw [hl6e] at hl6 hK6
    clear hl6e hk6
    have P6 := (P5.relab hl6).below hB56
    have hz6 : ∀ b, b < w5.heap.size → (L5 b = 0 ∨ 10 ≤ L5 b) → (l6 b = 0 ∨ 10 ≤ l6 b) := fun b hb hx => by rw [hl6 b hb]; exact hx
    have kf := KeptL.of_below (lab := l6) (A := fun _ => False) hB56
    have k7 : KeptL l6 (fun x => x = 5) w6 (w6.setCell ⟨N.p, 3, none⟩ (.pointer (some ⟨mk, 0, none⟩))) := (KeptL.refl _ _ _).set P6.lp _
    have c3' := P6.c3
    have z3 := P6.bp.fz 3 (by omega)
    have hpl6 := P6.bp.lt
    have BS : Hid (BgS lab w N S fb M.t rb F T q (.slice go k gc) (.slice to tl tc) (.slice ao al ac) (w6.setCell ⟨N.p, 3, none⟩ (.pointer (some ⟨mk, 0, none⟩))) l6 N.nv S.nd.length (nrow S.nd) mk mm sn) := by
      refine ⟨⟨N.hv, (P6.bp.set 3 _ (by omega)).congr (fun i hi => ?_)⟩, P6.bn.keptL k7 (by omega), hK6.keptL k7 (by omega) (by omega), ?_, (hl6 _ R5.lt).trans hLr, P6.lp, ?_, ?_, fun j hj => (hl6 j (by omega)).trans (hL5 j hj), ?_⟩
      · match i with
        | 0 => rfl
        | 1 => rfl
        | 2 => rfl
        | 3 => rfl
        | 4 => rfl
        | j + 5 => simp [upd, pcell]
      · rw [HBAY.out, HHZ.out]
        exact (R5.below hB56).keptL k7 (by rw [(hl6 _ R5.lt).trans hLr]; omega)
      · rw [HBAY.out]
        exact ((I5.1.relab hz6).keptL kf (fun _ h => h.elim)).keptL k7 (fun x hx => by omega)
      · rw [HBAY.out]
        exact ((I5.2.relab hz6).keptL kf (fun _ h => h.elim)).keptL k7 (fun x hx => by omega)
      · refine ((KeptL.of_below B5).trans (KeptL.of_below hB56)).set (by unfold begL; rw [HP.out.lp]; omega) _
    clear B5 R5 I5 hL5 P5 hLr P6 hz6 kf k7 hK6 hB56 h1 h2 h3 hb6 KS c0 c3 r11 r12 CL5 MZ MC MN hrl hpl5 hsz
    go_wp2_with (first | (go_at_call 94; refine calls_nm fun w7 hw7 => ?_; refine hold ?_))
    unfold Hid
    rw [← hw7] at BS
    clear hw7 c3' z3 hpl6
    have hpl7 : N.p < w7.heap.size := Nat.lt_of_lt_of_le hpl BS.out.kk.size
    obtain ⟨hv7, p7⟩ := BS.out.p
    have c4 : w7.cell? ⟨N.p, 4, none⟩ = some (.slice no S.nd.length nc) := by rw [← HNV.out]; exact p7.is 4 (by omega)
    have c2 : w7.cell? ⟨N.p, 2, none⟩ = some hv7 := p7.is 2 (by omega)
    have z2 := p7.fz 2 (by omega)
    have z4 := p7.fz 4 (by omega)
    have hor : (no = none ∧ nc = 0) ∨ ∃ b, no = some ⟨b, 0, none⟩ := by
      obtain ⟨a', c', e1, -, e2⟩ := BS.out.n.ex
      rw [HNV.out] at e1
      simp only [Value.slice.injEq] at e1
      obtain ⟨rfl, -, rfl⟩ := e1
      exact or_map e2 (fun ⟨b, h, _⟩ => ⟨b, h⟩)
    have hsl := fun w => slice_h4 no S.nd.length nc hor w
    refine (reset_any N.p _ l6 w7 p7 BS.out.lp).mono ?_
    rintro e w8 ⟨rfl, rfl⟩
    have hn2 := BS.out.n
    rw [HNV.out] at hn2
    have BS8 := BS.out.set hpl 2 (.slice none 0 0) N.nv _ _ (fun hv h => ⟨.slice none 0 0, (h.set 2 _ (by omega)).congr (fun i hi => by
      match i with
      | 0 => rfl
      | 1 => rfl
      | 2 => rfl
      | 3 => rfl
      | 4 => rfl
      | j + 5 => simp [upd, pcell])⟩) BS.out.n
    have p8 : Hid (Blk (w7.setCell ⟨N.p, 2, none⟩ (.slice none 0 0)) N.p 16 (pcell ⟨N.p, .slice none 0 0, N.nv, mk, mm⟩ fb M.t S.st)) := (p7.set 2 (.slice none 0 0) (by omega)).congr (fun i hi => by
      match i with
      | 0 => rfl
      | 1 => rfl
      | 2 => rfl
      | 3 => rfl
      | 4 => rfl
      | j + 5 => simp [upd, pcell])
    have HB8 := hid BS8
    have HN2 := hid hn2.cut
    clear BS8 hn2 p7 hor
    go_wp2
    go_ret
    have k9 : KeptL l6 (fun x => x = 5) (w7.setCell ⟨N.p, 2, none⟩ (.slice none 0 0)) ((w7.setCell ⟨N.p, 2, none⟩ (.slice none 0 0)).setCell ⟨N.p, 4, none⟩ (.slice no 0 nc)) := (KeptL.refl _ _ _).set HB8.out.lp _
    have k78 : KeptL l6 (fun x => x = 5) w7 (w7.setCell ⟨N.p, 2, none⟩ (.slice none 0 0)) := (KeptL.refl _ _ _).set HB8.out.lp _
    refine begin_fin HF.out HT.out HG.out ((p8.out.set 4 (.slice no 0 nc) (by omega)).congr (fun i hi => ?_)) ((HN2.out.keptL k78 (by omega)).keptL k9 (by omega)) (HB8.out.k.keptL k9 (by omega) (by omega)) HP.out.lp hpl (HB8.out.r.keptL k9 (by rw [HB8.out.rl]; omega)) HB8.out.rl (HB8.out.t.keptL k9 (fun x hx => by omega)) (HB8.out.a.keptL k9 (fun x hx => by omega)) HB8.out.g (HB8.out.kk.trans' (k9.mono (fun x hx => by unfold begL; omega)) HB8.out.g) HBE.out
    match i with
    | 0 => rfl
    | 1 => rfl
    | 2 => rfl
    | 3 => rfl
    | 4 => rfl
    | j + 5 => simp [upd, pcell]
  · rw [if_neg gst] at HBE
    go_wp2_with (first | (go_at_call 92; refine (MZ.out _ (by (repeat (first | with_reducible exact Below.rf _ | with_reducible exact World.below_ext _ _ | with_reducible refine Below.ex ?_ _ | with_reducible refine Below.al ?_ _ | with_reducible refine Below.setCell ?_ (by simp) _ | with_reducible refine Below.drew ?_)))).mono ?_; rintro e w1 ⟨rfl, rfl⟩) | (go_at_call 93; refine hold ?_))
    unfold Hid
    refine (MC.out _ (by (repeat (first | with_reducible exact Below.rf _ | with_reducible exact World.below_ext _ _ | with_reducible refine Below.ex ?_ _ | with_reducible refine Below.al ?_ _ | with_reducible refine Below.setCell ?_ (by simp) _ | with_reducible refine Below.drew ?_)))).mono ?_
    rintro e w6 ⟨mm, l6, rfl, hK6, h2, hl6z, hkz⟩
    obtain ⟨B5, R5, I5, hL5, P5, hLr⟩ := KS.out
    have hs5 := B5.size
    have hsz := (World.below_ext w5 z).size
    have hl6 : ∀ j, j < w5.heap.size → l6 j = L5 j := fun j hj => hl6z j (by omega)
    have hk6 : KeptL L5 (fun x => x = 8) w5 w6 := (KeptL.of_below (World.below_ext w5 z)).trans hkz
    have hk6' := hk6.lab hl6
    have hz6 : ∀ b, b < w5.heap.size → (L5 b = 0 ∨ 10 ≤ L5 b) → (l6 b = 0 ∨ 10 ≤ l6 b) := fun b hb hx => by rw [hl6 b hb]; exact hx
    have P6 := P5.relab hl6
    have BS : Hid (BgS lab w N S fb M.t rb F T q (.slice go k gc) (.slice to tl tc) (.slice ao al ac) w6 l6 N.nv S.nd.length (nrow S.nd) N.kb mm S.ms) := by
      refine ⟨⟨N.hv, (P6.bp.keptL hk6' (by rw [P6.lp]; omega)).congr (fun i hi => ?_)⟩, P6.bn.keptL hk6' (by omega), hK6, ?_, (hl6 _ R5.lt).trans hLr, P6.lp, ?_, ?_, fun j hj => (hl6 j (by omega)).trans (hL5 j hj), ?_⟩
      · match i with
        | 0 => rfl
        | 1 => rfl
        | 2 => rfl
        | 3 => rfl
        | 4 => rfl
        | j + 5 => simp [pcell]
      · rw [HBAY.out, HHZ.out]
        exact R5.keptL hk6 (by rw [hLr]; omega)
      · rw [HBAY.out]
        exact (I5.1.relab hz6).keptL hk6' (fun x hx => by omega)
      · rw [HBAY.out]
        exact (I5.2.relab hz6).keptL hk6' (fun x hx => by omega)
      · exact (KeptL.of_below B5).trans' (hk6.mono (fun x hx => by unfold begL; omega)) hL5
    clear B5 R5 I5 hL5 P5 hLr P6 hz6 hk6 hk6' hK6 hl6 hl6z hkz h2 KS c0 c3 r11 r12 CL5 MZ MC hrl hpl5 hsz
    go_wp2_with (first | (go_at_call 94; refine calls_nm fun w7 hw7 => ?_; refine hold ?_))
    unfold Hid
    rw [← hw7] at BS
    clear hw7
    have hpl7 : N.p < w7.heap.size := Nat.lt_of_lt_of_le hpl BS.out.kk.size
    obtain ⟨hv7, p7⟩ := BS.out.p
    have c4 : w7.cell? ⟨N.p, 4, none⟩ = some (.slice no S.nd.length nc) := by rw [← HNV.out]; exact p7.is 4 (by omega)
    have c2 : w7.cell? ⟨N.p, 2, none⟩ = some hv7 := p7.is 2 (by omega)
    have z2 := p7.fz 2 (by omega)
    have z4 := p7.fz 4 (by omega)
    have hor : (no = none ∧ nc = 0) ∨ ∃ b, no = some ⟨b, 0, none⟩ := by
      obtain ⟨a', c', e1, -, e2⟩ := BS.out.n.ex
      rw [HNV.out] at e1
      simp only [Value.slice.injEq] at e1
      obtain ⟨rfl, -, rfl⟩ := e1
      exact or_map e2 (fun ⟨b, h, _⟩ => ⟨b, h⟩)
    have hsl := fun w => slice_h4 no S.nd.length nc hor w
    refine (reset_any N.p _ l6 w7 p7 BS.out.lp).mono ?_
    rintro e w8 ⟨rfl, rfl⟩
    have hn2 := BS.out.n
    rw [HNV.out] at hn2
    have BS8 := BS.out.set hpl 2 (.slice none 0 0) N.nv _ _ (fun hv h => ⟨.slice none 0 0, (h.set 2 _ (by omega)).congr (fun i hi => by
      match i with
      | 0 => rfl
      | 1 => rfl
      | 2 => rfl
      | 3 => rfl
      | 4 => rfl
      | j + 5 => simp [upd, pcell])⟩) BS.out.n
    have p8 : Hid (Blk (w7.setCell ⟨N.p, 2, none⟩ (.slice none 0 0)) N.p 16 (pcell ⟨N.p, .slice none 0 0, N.nv, N.kb, mm⟩ fb M.t S.st)) := (p7.set 2 (.slice none 0 0) (by omega)).congr (fun i hi => by
      match i with
      | 0 => rfl
      | 1 => rfl
      | 2 => rfl
      | 3 => rfl
      | 4 => rfl
      | j + 5 => simp [upd, pcell])
    have HB8 := hid BS8
    have HN2 := hid hn2.cut
    clear BS8 hn2 p7 hor
    go_wp2
    go_ret
    have k9 : KeptL l6 (fun x => x = 5) (w7.setCell ⟨N.p, 2, none⟩ (.slice none 0 0)) ((w7.setCell ⟨N.p, 2, none⟩ (.slice none 0 0)).setCell ⟨N.p, 4, none⟩ (.slice no 0 nc)) := (KeptL.refl _ _ _).set HB8.out.lp _
    have k78 : KeptL l6 (fun x => x = 5) w7 (w7.setCell ⟨N.p, 2, none⟩ (.slice none 0 0)) := (KeptL.refl _ _ _).set HB8.out.lp _
    refine begin_fin HF.out HT.out HG.out ((p8.out.set 4 (.slice no 0 nc) (by omega)).congr (fun i hi => ?_)) ((HN2.out.keptL k78 (by omega)).keptL k9 (by omega)) (HB8.out.k.keptL k9 (by omega) (by omega)) HP.out.lp hpl (HB8.out.r.keptL k9 (by rw [HB8.out.rl]; omega)) HB8.out.rl (HB8.out.t.keptL k9 (fun x hx => by omega)) (HB8.out.a.keptL k9 (fun x hx => by omega)) HB8.out.g (HB8.out.kk.trans' (k9.mono (fun x hx => by unfold begL; omega)) HB8.out.g) HBE.out
    match i with
    | 0 => rfl
    | 1 => rfl
    | 2 => rfl
    | 3 => rfl
    | 4 => rfl
    | j + 5 => simp [upd, pcell]
end Go.Proofs.Qxb6500716a
