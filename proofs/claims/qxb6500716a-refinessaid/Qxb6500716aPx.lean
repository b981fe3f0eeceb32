/-
  expand: the walk.
-/
import Derived.Test.Qxb6500716aPw
namespace Go.Proofs.Qxb6500716a
open Go.RowKit Go.Maps
set_option linter.unusedSimpArgs false
set_option linter.unusedVariables false
set_option maxRecDepth 20000
set_option maxHeartbeats 4000000

def nearGo (F : FS) (T : TS) (q : Rq) (bay hz : Int) (c o l : Nat) (id : Int) : List Int → PS → PS
  | [], S => S
  | to :: r, S => nearGo F T q bay hz c o l id r (if T.freeM q.r c to (q.t + o) = true then S.reach F q.gl bay hz to.toNat (o + 1) l id else S)
def PS.exp1 (F : FS) (T : TS) (q : Rq) (bay hz : Int) (S : PS) (c o l : Nat) (id : Int) : PS :=
  match q.gl[l]? with
  | some g => if g.1 = c ∧ T.stays q.r c (q.t + o) 0 g.2.toNat = true then S.reach F q.gl bay hz c (o + g.2.toNat) (l + 1) id else S
  | none => S
def PS.exp2 (F : FS) (T : TS) (q : Rq) (bay hz : Int) (S : PS) (c o l : Nat) (id : Int) : PS :=
  if T.freeM q.r c c (q.t + o) = true then S.reach F q.gl bay hz c (o + 1) l id else S
/-- What 'expand' leaves. -/
def PS.expand (F : FS) (T : TS) (q : Rq) (bay hz : Int) (S : PS) (x : Nd) (id : Int) : PS :=
  nearGo F T q bay hz x.c x.o x.l id (F.near x.c) ((S.exp1 F T q bay hz x.c x.o x.l id).exp2 F T q bay hz x.c x.o x.l id)
def expPost (lab : Nat → Nat) (N : PM) (fb tb n : Nat) (S : PS) (w : World) (e : Ending) (w' : World) : Prop :=
  ∃ (lab' : Nat → Nat) (N' : PM) (n' : Nat), e = .returned (.tuple #[]) ∧ PAt w' lab' N' fb tb S n' ∧ N'.p = N.p ∧ n' ≤ n + 400 ∧ (∀ k, k < w.heap.size → lab' k = lab k) ∧ KeptL lab scrL w w'
theorem wp_name {P : Program} {code : Code} {Q : Exit → Act → World → Prop} {a : Act} {W : World} (h : ∀ w', w' = W → Code.wp P code Q a w') : Code.wp P code Q a W := h W rfl
/-- A state of the walk. -/
structure ExS (lab : Nat → Nat) (w : World) (xb : Nat) (x : Nd) (M : TM) (T : TS) (rb fb : Nat) (F : FS) (q : Rq) (gv tv av : Value) (bay hz : Int) (p0 n0 B : Nat) (wS : World) (lS : Nat → Nat) (N : PM) (S : PS) (n : Nat) (d : Nat) : Prop where
  a : Al wS lS M T N S n rb fb F q gv tv av bay hz
  b : Blk wS xb 4 (fc (.int .i64 (x.c)) (.int .i64 (x.o)) (.int .i64 (x.l)) (.int .i64 (x.p)))
  l : lS xb = 0
  g : ∀ k, k < w.heap.size → lS k = lab k
  k : KeptL lab scrL w wS
  s : Sok F q hz S (B + d)
  n : n ≤ n0 + d
  p : N.p = p0
section
variable {lab : Nat → Nat} {w : World} {xb : Nat} {x : Nd} {M : TM} {T : TS} {rb fb : Nat} {F : FS} {q : Rq} {gv tv av : Value} {bay hz : Int} {p0 n0 B : Nat} {wS w' : World} {lS l' : Nat → Nat} {N N' : PM} {S S' : PS} {n n' d : Nat}
theorem ExS.below (h : ExS lab w xb x M T rb fb F q gv tv av bay hz p0 n0 B wS lS N S n d) (hb : Below wS.heap.size wS w') : ExS lab w xb x M T rb fb F q gv tv av bay hz p0 n0 B w' lS N S n d :=
  ⟨h.a.below hb, h.b.below hb, h.l, h.g, h.k.trans ((KeptL.of_below hb).lab (lab := lS) (A := scrL) (fun k _ => rfl) |> fun z => ⟨z.os, z.tape, z.output, z.size, fun k hk _ => hb.block k hk⟩), h.s, h.n, h.p⟩
theorem ExS.step (h : ExS lab w xb x M T rb fb F q gv tv av bay hz p0 n0 B wS lS N S n d) (hl : ∀ k, k < wS.heap.size → l' k = lS k) (hk : KeptL lS scrL wS w') (hp : PAt w' l' N' fb M.t S' n') (hN : N'.p = N.p) (hn : n' ≤ n + 1) (hs : Sok F q hz S' (B + d + 1)) : ExS lab w xb x M T rb fb F q gv tv av bay hz p0 n0 B w' l' N' S' n' (d + 1) :=
  ⟨h.a.step hl hk hp hN, h.b.keptL hk (by rw [h.l]; unfold scrL; omega), (hl _ h.b.lt).trans h.l, fun k hk' => (hl k (Nat.lt_of_lt_of_le hk' h.k.size)).trans (h.g k hk'), h.k.trans' hk (fun i hi => h.g i hi), hs, by have := h.n; omega, hN.trans h.p⟩
theorem ExS.more (h : ExS lab w xb x M T rb fb F q gv tv av bay hz p0 n0 B wS lS N S n d) : ExS lab w xb x M T rb fb F q gv tv av bay hz p0 n0 B wS lS N S n (d + 1) :=
  { h with s := ⟨h.s.ms, h.s.ms2, by have := h.s.nd; omega, by have := h.s.hp; omega, h.s.ok, h.s.hv⟩, n := by have := h.n; omega }
end
theorem ExS.call {lab : Nat → Nat} {w : World} {xb : Nat} {x : Nd} {M : TM} {T : TS} {rb fb : Nat} {F : FS} {q : Rq} {gv tv av : Value} {bay hz : Int} {p0 n0 B : Nat} {wS : World} {lS : Nat → Nat} {N : PM} {S : PS} {n d : Nat}
    (h : ExS lab w xb x M T rb fb F q gv tv av bay hz p0 n0 B wS lS N S n d) (hO : Rok F T q bay hz) (c o l id : Nat) (a1 a2 a3 a4 : Int) (e1 : a1 = c) (e2 : a2 = o) (e3 : a3 = l) (e4 : a4 = id) (hc : c < F.n) (hl : l ≤ q.gl.length) (ho : o ≤ 400) (hi : id < S.nd.length) (hB : B ≤ 700000000) (hn0 : n0 ≤ 700000000) (hd : d ≤ 1000) :
    ∀ w' : World, Below wS.heap.size wS w' → Calls Try.prog 86 #[.pointer (some ⟨rb, 0, none⟩), .int .i64 (a1), .int .i64 (a2), .int .i64 (a3), .int .i64 (a4)] w' fun e w5 => e = .returned (.tuple #[]) ∧ ∃ (l5 : Nat → Nat) (N5 : PM) (n5 : Nat), ExS lab w xb x M T rb fb F q gv tv av bay hz p0 n0 B w5 l5 N5 (S.reach F q.gl bay hz c o l id) n5 (d + 1) := by
  intro w' hb
  subst e1 e2 e3 e4
  have h' := h.below hb
  have hnn := h.n
  have hnd := h.s.nd
  have hhp := h.s.hp
  refine (reach_any M T N S n rb fb F lS q gv tv av bay hz c o l id w' h'.a.f h'.a.p h'.a.r hO.gok hO.bay hO.hz h.s.ms h.s.ms2 hc hl ho ⟨by omega, by omega⟩ (by omega) (by omega) (by omega)).mono ?_
  rintro e w5 ⟨l5, N5, n5, rfl, hp, hN, hn5, hag, hk⟩
  exact ⟨rfl, l5, N5, n5, h'.step hag hk hp hN hn5 (h.s.reach (bay := bay) c o l id hc hl ⟨by omega, by omega⟩).1⟩
set_option maxHeartbeats 100000000 in
theorem expand_any (M : TM) (T : TS) (N : PM) (S : PS) (n rb fb : Nat) (F : FS) (lab : Nat → Nat) (q : Rq) (gv tv av : Value) (bay hz : Int) (id : Nat) (x : Nd) (B : Nat) (w : World) (hA : Al w lab M T N S n rb fb F q gv tv av bay hz) (hO : Rok F T q bay hz) (hS : Sok F q hz S B) (hB : B ≤ 700000000) (hn : n ≤ 700000000) (hid2 : S.nd[id]? = some x) :
    Calls Try.prog 90 #[.pointer (some ⟨rb, 0, none⟩), .int .i64 (id)] w (expPost lab N fb M.t n (S.expand F T q bay hz x id) w) := by
  have hxo := hS.ok x (List.mem_of_getElem? hid2)
  have hil := (List.getElem?_eq_some_iff.1 hid2).1
  have hnb := hS.nd
  obtain ⟨nb, nc, hnv, hncc, hnl, -, hcell⟩ := hA.p.bn.see (by omega)
  obtain ⟨e0, e1, e2, e3⟩ := nrow_at S.nd id x hid2
  have q0 := hcell _ _ e0
  have q1 := hcell _ _ e1
  have q2 := hcell _ _ e2
  have q3 := hcell _ _ e3
  have r0 : w.cell? ⟨rb, 0, none⟩ = some (.pointer (some ⟨N.p, 0, none⟩)) := hA.r.b.is 0 (by omega)
  have c4 := hA.p.c4
  rw [hnv] at c4
  have hrl := hA.r.b.lt
  have hpl := hA.p.bp.lt
  have hbb := hA.t.bd.base
  have hTt := hO.t
  have hhz := hO.hz
  have hn384 := hA.f.ok.n
  have hk16 := hO.gok.1
  have HOK := hid hO
  have HIDX := hid hid2
  obtain ⟨v, hvi, hvc⟩ := near_val fb F lab x.c hxo.1 w hA.f
  have HVI := hid hvi
  have NV := hid hvc
  obtain ⟨vo, vc, hvv, hvcc⟩ := hvi.ex
  have hvl := hA.f.ok.nearL x.c
  subst hvv
  obtain ⟨nn, hnn⟩ : ∃ y, (F.near x.c).length = y := ⟨_, rfl⟩
  rw [hnn] at hvl hvcc HVI NV
  have HNN := hid hnn
  clear hvi hvc hnn
  obtain ⟨nd, hnd⟩ : ∃ y, S.nd.length = y := ⟨_, rfl⟩
  rw [hnd] at c4 hil hncc hnb
  obtain ⟨c, o, l, p⟩ := x
  simp only at q0 q1 q2 q3 hxo hvl HVI NV HNN
  have hud : ∀ k, k < w.heap.size → upd lab w.heap.size 0 k = lab k := fun k hk => upd_ne _ _ (by omega)
  have hBA : Below w.heap.size w (w.alloc (Obj.cells #[.int .i64 (c), .int .i64 (o), .int .i64 (l), .int .i64 (p)] 143)) := (Below.rf _).al _
  have KS : Hid (ExS lab w w.heap.size ⟨c, o, l, p⟩ M T rb fb F q gv tv av bay hz N.p n B (w.alloc (Obj.cells #[.int .i64 (c), .int .i64 (o), .int .i64 (l), .int .i64 (p)] 143)) (upd lab w.heap.size 0) N S n 0) :=
    ⟨(hA.relab hud).below hBA, ⟨by simp, fun i hi => by (rcases (by omega : i = 0 ∨ i = 1 ∨ i = 2 ∨ i = 3) with rfl | rfl | rfl | rfl <;> simp [go_sem, ↓IntWalk.iteOmega, fc]), fun i hi => by simp [go_sem, ↓IntWalk.iteOmega]⟩, upd_at _ _ _, hud, KeptL.of_below hBA, hS, by omega, rfl⟩
  obtain ⟨res, hres⟩ : ∃ y, S.expand F T q bay hz ⟨c, o, l, p⟩ id = y := ⟨_, rfl⟩
  rw [hres]
  have HRES := hid hres
  clear hA hO hS hcell e0 e1 e2 e3 hnv hud hBA hres hid2
  go_enter Try.func90, Try.ntmps90
  go_wp2
  obtain ⟨xb, hxb⟩ : ∃ y, w.heap.size = y := ⟨_, rfl⟩
  have HXB := hid hxb
  obtain ⟨lA, hlA⟩ : ∃ y, upd lab w.heap.size 0 = y := ⟨_, rfl⟩
  rw [hlA] at KS
  rw [hxb] at KS ⊢
  generalize (w.alloc (Obj.cells #[.int .i64 (c), .int .i64 (o), .int .i64 (l), .int .i64 (p)] 143)) = wA at *
  clear hxb hlA r0 c4 hrl hpl q0 q1 q2 q3 hnl
  have r1 : wA.cell? ⟨rb, 1, none⟩ = some (.int .i64 (q.r)) := KS.out.a.r.b.is 1 (by omega)
  have r3 : wA.cell? ⟨rb, 3, none⟩ = some (.int .i64 (q.t)) := KS.out.a.r.b.is 3 (by omega)
  have r4 : wA.cell? ⟨rb, 4, none⟩ = some gv := KS.out.a.r.b.is 4 (by omega)
  have x1 : wA.cell? ⟨xb, 1, none⟩ = some (.int .i64 (o)) := KS.out.b.is 1 (by omega)
  have x2 : wA.cell? ⟨xb, 2, none⟩ = some (.int .i64 (l)) := KS.out.b.is 2 (by omega)
  have hrl := KS.out.a.r.b.lt
  have hxl := KS.out.b.lt
  obtain ⟨go, gc, hgv, hgc⟩ := KS.out.a.r.g.ex
  obtain ⟨k, hk⟩ : ∃ k, q.gl.length = k := ⟨_, rfl⟩
  rw [hgv, hk] at r4
  rw [hk] at hxo hk16 hgc
  have HK := hid hk
  have HGV := hid hgv
  clear hk hgv
  by_cases glk : l < k
  · have dl : decide ((l : Int) < (k : Int)) = true := by simp; omega
    have hll : l < q.gl.length := by rw [HK.out]; exact glk
    have hgx : q.gl[l]? = some q.gl[l] := List.getElem?_eq_getElem hll
    have hgm := HOK.out.gok.2 _ (List.getElem_mem hll)
    have hexp : (match q.gl[l]? with
      | some g => if g.1 = c ∧ T.stays q.r c (q.t + o) 0 g.2.toNat = true then S.reach F q.gl bay hz c (o + g.2.toNat) (l + 1) id else S
      | none => S) = S.exp1 F T q bay hz c o l id := rfl
    rw [hgx] at hexp
    simp only at hexp
    generalize q.gl[l] = g at *
    obtain ⟨g1, g2⟩ := g
    simp only at hgm hexp
    obtain ⟨gc1, rfl⟩ : ∃ y : Nat, g1 = y := ⟨g1.toNat, by omega⟩
    obtain ⟨gd, rfl⟩ : ∃ y : Nat, g2 = y := ⟨g2.toNat, by omega⟩
    rw [Int.toNat_natCast] at hexp
    obtain ⟨gb, gn', gcap, hgv2, hgbl, -, y0, y1⟩ := KS.out.a.r.g.row l _ hgx
    rw [HGV.out] at hgv2
    simp only [Value.slice.injEq] at hgv2
    obtain ⟨rfl, -, -⟩ := hgv2
    simp only at y0 y1
    have x0 : wA.cell? ⟨xb, 0, none⟩ = some (.int .i64 (c)) := KS.out.b.is 0 (by omega)
    have CS := hid (fun (w' : World) (h : Below wA.heap.size wA w') => canStay_any M T N S n rb fb F lA q gv tv av bay hz c (q.t + o) gd w' (KS.out.a.t.below h) (KS.out.a.p.below h) (KS.out.a.r.below h) ⟨by have := HOK.out.r; have := KS.out.a.f.ok.nb; omega, by have := HOK.out.r; have := KS.out.a.f.ok.nb; omega⟩ (by omega) ⟨by omega, by omega⟩ (by omega))
    have HXP := hid hexp
    have HSI0 : Hid (id < S.nd.length) := by rw [hnd]; exact hil
    have hgd : gd ≤ 64 := by omega
    clear hexp hgx hgm
    by_cases gcc : gc1 = c
    · have gcc' : c = gc1 := gcc.symm
      clear gcc
      subst gcc'
      have dg : ((c : Int) == (c : Int)) = true := by simp
      cases hst : T.stays q.r c (q.t + o) 0 gd with
      | false =>
        rw [hst] at CS
        have HR1 : Hid (nearGo F T q bay hz c o l id (F.near c) (S.exp2 F T q bay hz c o l id) = res) := by
          have h1 := HRES.out
          unfold PS.expand at h1
          simp only at h1
          rw [← HXP.out, hst, if_neg (by simp)] at h1
          exact h1
        clear hst
        first | with_reducible refine wp_region_ext2 (by kernel_rfl) (by kernel_rfl) ?_ | refine wp_region_ext (by kernel_rfl) (by kernel_rfl) ?_
        repeat (go_big_quiet_step (fail))
        refine wpQuiet_nil ?_
        rintro _ ⟨z, rfl⟩
        go_wp2
        first | with_reducible refine wp_region_ext2 (by kernel_rfl) (by kernel_rfl) ?_ | refine wp_region_ext (by kernel_rfl) (by kernel_rfl) ?_
        repeat (go_big_quiet_step (fail))
        refine wpQuiet_nil ?_
        rintro _ ⟨z, rfl⟩
        go_wp2
        refine wp_region_tree 10 (fun w' => w'.cell? ⟨rb, 4, none⟩ = some (.slice (some ⟨gb, 0, none⟩) k gc) ∧ w'.cell? ⟨xb, 2, none⟩ = some (.int .i64 (l)) ∧ w'.cell? ⟨gb, l * 2, none⟩ = some (.int .i64 (c)) ∧ w'.cell? ⟨gb, l * 2 + 1, none⟩ = some (.int .i64 (gd))) (.q 0 false (.q 1 false (.q 2 false (.q 3 false (.q 4 true (.q 5 false (.q 6 true (.q 7 false (.q 8 true (.one 9 true (.one 10 false .nil))))))))))) (by kernel_rfl) (by kernel_rfl) (by kernel_rfl) ?_ ?_
        · simp [go_sem, ↓IntWalk.iteOmega, *]
        repeat (first | (refine wpTr_qf (v := ?_) rfl rfl ?_ ?_; rotate_left; focus (intro w; go_simp; (try (with_reducible rfl)); done); try simp only [List.getElem_toArray, List.getElem_cons_zero, List.getElem_cons_succ, Act.put, List.setIfInBounds_toArray, List.set_cons_zero, List.set_cons_succ]) | (refine wpTr_qt (v := ?_) rfl rfl ?_ ?_; rotate_left; focus (intro w hSw; (try dsimp only at hSw); go_simp; (try (with_reducible rfl)); done); try simp only [List.getElem_toArray, List.getElem_cons_zero, List.getElem_cons_succ, Act.put, List.setIfInBounds_toArray, List.set_cons_zero, List.set_cons_succ]))
        refine wpTr_one rfl rfl (fun K hK => ?_)
        go_simp
        refine hK.out _ _ (fun _ => by simp [go_sem, ↓IntWalk.iteOmega, *]) ?_
        clear hK K
        refine wpTr_one rfl rfl (fun K hK => ?_)
        go_simp
        refine hK.out _ _ (fun h => by cases h) ?_
        clear hK K
        refine wpTr_nil ?_
        refine NoPanic.normal ?_
        go_wp2_with (first | (go_at_call 98; refine (CS.out _ (by (repeat (first | with_reducible exact Below.rf _ | with_reducible exact World.below_ext _ _ | with_reducible refine Below.ex ?_ _ | with_reducible refine Below.al ?_ _ | with_reducible refine Below.setCell ?_ (by simp) _ | with_reducible refine Below.drew ?_)))).mono ?_; rintro e w7 ⟨rfl, z7, rfl⟩))
        refine wp_name fun wS hwS => ?_
        have KT := hid (KS.out.below (w' := wS) (by rw [hwS]; (repeat (first | with_reducible exact Below.rf _ | with_reducible exact World.below_ext _ _ | with_reducible refine Below.ex ?_ _ | with_reducible refine Below.al ?_ _ | with_reducible refine Below.setCell ?_ (by simp) _ | with_reducible refine Below.drew ?_)))).more
        clear hwS KS r1 r3 r4 x1 x2 hrl hxl x0 y0 y1 CS HSI0
        obtain ⟨lS, hlS⟩ : ∃ y, lA = y := ⟨_, rfl⟩
        obtain ⟨NS, hNS⟩ : ∃ y, N = y := ⟨_, rfl⟩
        obtain ⟨SS, hSS⟩ : ∃ y, S = y := ⟨_, rfl⟩
        obtain ⟨nS, hnS⟩ : ∃ y, n = y := ⟨_, rfl⟩
        rw [hlS] at KT
        rw [hSS] at HR1
        have KU : Hid (ExS lab w xb ⟨c, o, l, p⟩ M T rb fb F q gv tv av bay hz N.p n B wS lS NS SS nS 1) := by
          subst hNS hSS hnS
          exact KT.out
        have HSI : Hid (id < SS.nd.length) := by rw [← hSS, hnd]; exact hil
        clear KT hlS hNS hSS hnS
        have r0 : (wS).cell? ⟨rb, 0, none⟩ = some (.pointer (some ⟨(NS).p, 0, none⟩)) := KU.out.a.r.b.is 0 (by omega)
        have c0 := KU.out.a.p.c0
        have c1 := KU.out.a.p.c1
        have x0 : (wS).cell? ⟨xb, 0, none⟩ = some (.int .i64 (c)) := KU.out.b.is 0 (by omega)
        have x1 : (wS).cell? ⟨xb, 1, none⟩ = some (.int .i64 (o)) := KU.out.b.is 1 (by omega)
        have x2 : (wS).cell? ⟨xb, 2, none⟩ = some (.int .i64 (l)) := KU.out.b.is 2 (by omega)
        have hrl := KU.out.a.r.b.lt
        have hxl := KU.out.b.lt
        have hpl := KU.out.a.p.bp.lt
        have FM1 := hid (fun (w' : World) (h : Below wS.heap.size wS w') => freeM_any M T lS q.r c c (q.t + o) w' (KU.out.a.t.below h) ⟨by have := HOK.out.r; have := KU.out.a.f.ok.nb; omega, by have := HOK.out.r; have := KU.out.a.f.ok.nb; omega⟩ ⟨by omega, by omega⟩ ⟨by omega, by omega⟩ ⟨by omega, by omega⟩)
        cases hfm : T.freeM q.r c c (q.t + o) with
        | false =>
          rw [hfm] at FM1
          have HR2 : Hid (nearGo F T q bay hz c o l id (F.near c) SS = res) := by
            have := HR1.out
            unfold PS.exp2 at this
            rw [hfm, if_neg (by simp)] at this
            exact this
          clear hfm
          first | with_reducible refine wp_region_ext2 (by kernel_rfl) (by kernel_rfl) ?_ | refine wp_region_ext (by kernel_rfl) (by kernel_rfl) ?_
          repeat (go_big_quiet_step ((go_at_call 63; exact Calls.ext_of (FM1.out _ (by (repeat (first | with_reducible exact Below.rf _ | with_reducible exact World.below_ext _ _ | with_reducible refine Below.ex ?_ _ | with_reducible refine Below.al ?_ _ | with_reducible refine Below.setCell ?_ (by simp) _ | with_reducible refine Below.drew ?_)))))))
          refine wpQuiet_nil ?_
          rintro _ ⟨z, rfl⟩
          go_wp2
          refine wp_name fun wT hwT => ?_
          have KW := hid (KU.out.below (w' := wT) (by rw [hwT]; (repeat (first | with_reducible exact Below.rf _ | with_reducible exact World.below_ext _ _ | with_reducible refine Below.ex ?_ _ | with_reducible refine Below.al ?_ _ | with_reducible refine Below.setCell ?_ (by simp) _ | with_reducible refine Below.drew ?_)))).more
          clear hwT KU FM1 r0 c0 c1 x0 x1 x2 hrl hxl hpl HR1
          obtain ⟨lT, hlT⟩ : ∃ y, lS = y := ⟨_, rfl⟩
          obtain ⟨NT, hNT⟩ : ∃ y, NS = y := ⟨_, rfl⟩
          obtain ⟨ST, hST⟩ : ∃ y, SS = y := ⟨_, rfl⟩
          obtain ⟨nT, hnT⟩ : ∃ y, nS = y := ⟨_, rfl⟩
          rw [hlT, hNT, hST, hnT] at KW
          rw [hST] at HR2
          have HRI : Hid (id < ST.nd.length) := by rw [← hST]; exact HSI.out
          clear hlT hNT hST hnT HSI
          have r0 : (wT).cell? ⟨rb, 0, none⟩ = some (.pointer (some ⟨(NT).p, 0, none⟩)) := KW.out.a.r.b.is 0 (by omega)
          have c0 := KW.out.a.p.c0
          have c1 := KW.out.a.p.c1
          have x0 : (wT).cell? ⟨xb, 0, none⟩ = some (.int .i64 (c)) := KW.out.b.is 0 (by omega)
          have x1 : (wT).cell? ⟨xb, 1, none⟩ = some (.int .i64 (o)) := KW.out.b.is 1 (by omega)
          have x2 : (wT).cell? ⟨xb, 2, none⟩ = some (.int .i64 (l)) := KW.out.b.is 2 (by omega)
          have hrl := KW.out.a.r.b.lt
          have hxl := KW.out.b.lt
          have hpl := KW.out.a.p.bp.lt
          first | with_reducible refine wp_region_ext2 (by kernel_rfl) (by kernel_rfl) ?_ | refine wp_region_ext (by kernel_rfl) (by kernel_rfl) ?_
          repeat (go_big_quiet_step ((go_at_call 32; exact Calls.ext_of_same (NV.out _ (KW.out.below (by (repeat (first | with_reducible exact Below.rf _ | with_reducible exact World.below_ext _ _ | with_reducible refine Below.ex ?_ _ | with_reducible refine Below.al ?_ _ | with_reducible refine Below.setCell ?_ (by simp) _ | with_reducible refine Below.drew ?_)))).k))))
          refine wpQuiet_nil ?_
          rintro _ ⟨z, rfl⟩
          go_wp2
          go_loopw [113] (fun y wr => ∃ (j : Nat) (l6 : Nat → Nat) (N6 : PM) (S6 : PS) (n6 d : Nat), y = .int .i64 (j) ∧ j ≤ nn ∧ nearGo F T q bay hz c o l id ((F.near c).drop j) S6 = res ∧ id < S6.nd.length ∧ d ≤ 2 + j ∧ ExS lab w xb ⟨c, o, l, p⟩ M T rb fb F q gv tv av bay hz N.p n B wr l6 N6 S6 n6 d) (fun y _ => nn - (intOf y).toNat)
          case atStart => exact ⟨0, lT, NT, ST, nT, 2, rfl, Nat.zero_le _, HR2.out, HRI.out, by omega, KW.out.below (by (repeat (first | with_reducible exact Below.rf _ | with_reducible exact World.below_ext _ _ | with_reducible refine Below.ex ?_ _ | with_reducible refine Below.al ?_ _ | with_reducible refine Below.setCell ?_ (by simp) _ | with_reducible refine Below.drew ?_)))⟩
          case round =>
            obtain ⟨j, l6, N6, S6, n6, d, rfl, hj, heq, hi6, hd, hE⟩ := hrel
            have HE6 := hid hE
            have HI6 := hid hi6
            clear KW HR2 HRI r0 c0 c1 x0 x1 x2 hrl hxl hpl hE hi6
            by_cases hjn : j < nn
            · have hjl : j < (F.near c).length := by rw [HNN.out]; exact hjn
              have hx : (F.near c)[j]? = some (F.near c)[j] := List.getElem?_eq_getElem hjl
              have hdr : (F.near c).drop j = (F.near c)[j] :: (F.near c).drop (j + 1) := List.drop_eq_getElem_cons hjl
              have htb := HE6.out.a.f.ok.near c _ (List.getElem_mem hjl)
              rw [hdr, nearGo] at heq
              generalize (F.near c)[j] = to at *
              obtain ⟨b, a, n', cap', hv, hbl, -, cq⟩ := (HVI.out.keptL HE6.out.k (fun x hx => by unfold scrL at hx; omega)).row j to hx
              simp only [Value.slice.injEq] at hv
              obtain ⟨rfl, -, -⟩ := hv
              obtain ⟨tn, rfl⟩ : ∃ tn : Nat, to = tn := ⟨to.toNat, by omega⟩
              rw [Int.toNat_natCast] at heq
              have r0 : (wr).cell? ⟨rb, 0, none⟩ = some (.pointer (some ⟨(N6).p, 0, none⟩)) := HE6.out.a.r.b.is 0 (by omega)
              have c0 := HE6.out.a.p.c0
              have c1 := HE6.out.a.p.c1
              have x0 : (wr).cell? ⟨xb, 0, none⟩ = some (.int .i64 (c)) := HE6.out.b.is 0 (by omega)
              have x1 : (wr).cell? ⟨xb, 1, none⟩ = some (.int .i64 (o)) := HE6.out.b.is 1 (by omega)
              have x2 : (wr).cell? ⟨xb, 2, none⟩ = some (.int .i64 (l)) := HE6.out.b.is 2 (by omega)
              have hrl := HE6.out.a.r.b.lt
              have hxl := HE6.out.b.lt
              have hpl := HE6.out.a.p.bp.lt
              have dj : decide ((j : Int) < (nn : Int)) = true := by simp; omega
              have FM1 := hid (fun (w' : World) (h : Below wr.heap.size wr w') => freeM_any M T l6 q.r c tn (q.t + o) w' (HE6.out.a.t.below h) ⟨by have := HOK.out.r; have := HE6.out.a.f.ok.nb; omega, by have := HOK.out.r; have := HE6.out.a.f.ok.nb; omega⟩ ⟨by omega, by omega⟩ ⟨by omega, by omega⟩ ⟨by omega, by omega⟩)
              clear hx hdr
              cases hfm : T.freeM q.r c tn (q.t + o) with
              | false =>
                rw [hfm] at FM1 heq
                rw [if_neg (by simp)] at heq
                have HE := hid heq
                clear heq hfm
                go_wp2
                first | with_reducible refine wp_region_ext2 (by kernel_rfl) (by kernel_rfl) ?_ | refine wp_region_ext (by kernel_rfl) (by kernel_rfl) ?_
                repeat (go_big_quiet_step ((go_at_call 63; exact Calls.ext_of (FM1.out _ (by (repeat (first | with_reducible exact Below.rf _ | with_reducible exact World.below_ext _ _ | with_reducible refine Below.ex ?_ _ | with_reducible refine Below.al ?_ _ | with_reducible refine Below.setCell ?_ (by simp) _ | with_reducible refine Below.drew ?_)))))))
                refine wpQuiet_nil ?_
                rintro _ ⟨z, rfl⟩
                go_wp2
                go_roundw
                case rel => exact ⟨j + 1, l6, N6, S6, n6, d, by go_num, by omega, HE.out, HI6.out, by omega, HE6.out.below (by (repeat (first | with_reducible exact Below.rf _ | with_reducible exact World.below_ext _ _ | with_reducible refine Below.ex ?_ _ | with_reducible refine Below.al ?_ _ | with_reducible refine Below.setCell ?_ (by simp) _ | with_reducible refine Below.drew ?_)))⟩
                case measure => simp [intOf]; omega
              | true =>
                rw [hfm] at FM1 heq
                rw [if_pos rfl] at heq
                have HE := hid heq
                have HRI : Hid (id < (S6.reach F q.gl bay hz tn (o + 1) l id).nd.length) := Nat.lt_of_lt_of_le HI6.out (HE6.out.s.reach (bay := bay) tn (o + 1) l id (by omega) (by rw [HK.out]; omega) ⟨by omega, by have := HI6.out; omega⟩).2
                have RE := hid (HE6.out.call HOK.out tn (o + 1) l id tn ((o : Int) + 1) l id rfl (by omega) rfl rfl (by omega) (by rw [HK.out]; omega) (by omega) HI6.out hB hn (by omega))
                clear heq hfm
                go_wp2
                first | with_reducible refine wp_region_ext2 (by kernel_rfl) (by kernel_rfl) ?_ | refine wp_region_ext (by kernel_rfl) (by kernel_rfl) ?_
                repeat (go_big_quiet_step ((go_at_call 63; exact Calls.ext_of (FM1.out _ (by (repeat (first | with_reducible exact Below.rf _ | with_reducible exact World.below_ext _ _ | with_reducible refine Below.ex ?_ _ | with_reducible refine Below.al ?_ _ | with_reducible refine Below.setCell ?_ (by simp) _ | with_reducible refine Below.drew ?_)))))))
                refine wpQuiet_nil ?_
                rintro _ ⟨z, rfl⟩
                go_wp2_with (first | (go_at_call 86; refine (RE.out _ (by (repeat (first | with_reducible exact Below.rf _ | with_reducible exact World.below_ext _ _ | with_reducible refine Below.ex ?_ _ | with_reducible refine Below.al ?_ _ | with_reducible refine Below.setCell ?_ (by simp) _ | with_reducible refine Below.drew ?_)))).mono ?_; rintro e w7 ⟨rfl, l7, N7, n7, hK7⟩))
                go_roundw
                case rel => exact ⟨j + 1, l7, N7, _, n7, d + 1, by go_num, by omega, HE.out, HRI.out, by omega, hK7⟩
                case measure => simp [intOf]; omega
            · rw [List.drop_eq_nil_of_le (by rw [HNN.out]; omega), nearGo] at heq
              have HE := hid heq
              have dj : decide ((j : Int) < (nn : Int)) = false := by simp; omega
              clear heq
              go_wp2
              refine bodyPost_end (v := .tuple #[]) (by simp [results, Try.results90, go_sem]) rfl ?_
              rw [← HE.out]
              exact ⟨l6, N6, n6, rfl, HE6.out.a.p, HE6.out.p, by have := HE6.out.n; omega, HE6.out.g, HE6.out.k⟩
        | true =>
          rw [hfm] at FM1
          have HR2 : Hid (nearGo F T q bay hz c o l id (F.near c) (SS.reach F q.gl bay hz c (o + 1) l id) = res) := by
            have := HR1.out
            unfold PS.exp2 at this
            rw [hfm, if_pos rfl] at this
            exact this
          have HRI : Hid (id < (SS.reach F q.gl bay hz c (o + 1) l id).nd.length) := Nat.lt_of_lt_of_le HSI.out (KU.out.s.reach (bay := bay) c (o + 1) l id (by omega) (by rw [HK.out]; omega) ⟨by omega, by have := HSI.out; omega⟩).2
          have RE := hid (KU.out.call HOK.out c (o + 1) l id c ((o : Int) + 1) l id rfl (by omega) rfl rfl (by omega) (by rw [HK.out]; omega) (by omega) HSI.out hB hn (by omega))
          clear hfm
          first | with_reducible refine wp_region_ext2 (by kernel_rfl) (by kernel_rfl) ?_ | refine wp_region_ext (by kernel_rfl) (by kernel_rfl) ?_
          repeat (go_big_quiet_step ((go_at_call 63; exact Calls.ext_of (FM1.out _ (by (repeat (first | with_reducible exact Below.rf _ | with_reducible exact World.below_ext _ _ | with_reducible refine Below.ex ?_ _ | with_reducible refine Below.al ?_ _ | with_reducible refine Below.setCell ?_ (by simp) _ | with_reducible refine Below.drew ?_)))))))
          refine wpQuiet_nil ?_
          rintro _ ⟨z, rfl⟩
          go_wp2_with (first | (go_at_call 86; refine (RE.out _ (by (repeat (first | with_reducible exact Below.rf _ | with_reducible exact World.below_ext _ _ | with_reducible refine Below.ex ?_ _ | with_reducible refine Below.al ?_ _ | with_reducible refine Below.setCell ?_ (by simp) _ | with_reducible refine Below.drew ?_)))).mono ?_; rintro e wT ⟨rfl, lT, NT, nT, hKW⟩))
          have KW := hid hKW
          clear hKW KU FM1 RE r0 c0 c1 x0 x1 x2 hrl hxl hpl HR1 HSI
          obtain ⟨ST, hST⟩ : ∃ y, SS.reach F q.gl bay hz c (o + 1) l id = y := ⟨_, rfl⟩
          rw [hST] at KW HR2 HRI
          clear hST
          have r0 : (wT).cell? ⟨rb, 0, none⟩ = some (.pointer (some ⟨(NT).p, 0, none⟩)) := KW.out.a.r.b.is 0 (by omega)
          have c0 := KW.out.a.p.c0
          have c1 := KW.out.a.p.c1
          have x0 : (wT).cell? ⟨xb, 0, none⟩ = some (.int .i64 (c)) := KW.out.b.is 0 (by omega)
          have x1 : (wT).cell? ⟨xb, 1, none⟩ = some (.int .i64 (o)) := KW.out.b.is 1 (by omega)
          have x2 : (wT).cell? ⟨xb, 2, none⟩ = some (.int .i64 (l)) := KW.out.b.is 2 (by omega)
          have hrl := KW.out.a.r.b.lt
          have hxl := KW.out.b.lt
          have hpl := KW.out.a.p.bp.lt
          first | with_reducible refine wp_region_ext2 (by kernel_rfl) (by kernel_rfl) ?_ | refine wp_region_ext (by kernel_rfl) (by kernel_rfl) ?_
          repeat (go_big_quiet_step ((go_at_call 32; exact Calls.ext_of_same (NV.out _ (KW.out.below (by (repeat (first | with_reducible exact Below.rf _ | with_reducible exact World.below_ext _ _ | with_reducible refine Below.ex ?_ _ | with_reducible refine Below.al ?_ _ | with_reducible refine Below.setCell ?_ (by simp) _ | with_reducible refine Below.drew ?_)))).k))))
          refine wpQuiet_nil ?_
          rintro _ ⟨z, rfl⟩
          go_wp2
          go_loopw [113] (fun y wr => ∃ (j : Nat) (l6 : Nat → Nat) (N6 : PM) (S6 : PS) (n6 d : Nat), y = .int .i64 (j) ∧ j ≤ nn ∧ nearGo F T q bay hz c o l id ((F.near c).drop j) S6 = res ∧ id < S6.nd.length ∧ d ≤ 2 + j ∧ ExS lab w xb ⟨c, o, l, p⟩ M T rb fb F q gv tv av bay hz N.p n B wr l6 N6 S6 n6 d) (fun y _ => nn - (intOf y).toNat)
          case atStart => exact ⟨0, lT, NT, ST, nT, 2, rfl, Nat.zero_le _, HR2.out, HRI.out, by omega, KW.out.below (by (repeat (first | with_reducible exact Below.rf _ | with_reducible exact World.below_ext _ _ | with_reducible refine Below.ex ?_ _ | with_reducible refine Below.al ?_ _ | with_reducible refine Below.setCell ?_ (by simp) _ | with_reducible refine Below.drew ?_)))⟩
          case round =>
            obtain ⟨j, l6, N6, S6, n6, d, rfl, hj, heq, hi6, hd, hE⟩ := hrel
            have HE6 := hid hE
            have HI6 := hid hi6
            clear KW HR2 HRI r0 c0 c1 x0 x1 x2 hrl hxl hpl hE hi6
            by_cases hjn : j < nn
            · have hjl : j < (F.near c).length := by rw [HNN.out]; exact hjn
              have hx : (F.near c)[j]? = some (F.near c)[j] := List.getElem?_eq_getElem hjl
              have hdr : (F.near c).drop j = (F.near c)[j] :: (F.near c).drop (j + 1) := List.drop_eq_getElem_cons hjl
              have htb := HE6.out.a.f.ok.near c _ (List.getElem_mem hjl)
              rw [hdr, nearGo] at heq
              generalize (F.near c)[j] = to at *
              obtain ⟨b, a, n', cap', hv, hbl, -, cq⟩ := (HVI.out.keptL HE6.out.k (fun x hx => by unfold scrL at hx; omega)).row j to hx
              simp only [Value.slice.injEq] at hv
              obtain ⟨rfl, -, -⟩ := hv
              obtain ⟨tn, rfl⟩ : ∃ tn : Nat, to = tn := ⟨to.toNat, by omega⟩
              rw [Int.toNat_natCast] at heq
              have r0 : (wr).cell? ⟨rb, 0, none⟩ = some (.pointer (some ⟨(N6).p, 0, none⟩)) := HE6.out.a.r.b.is 0 (by omega)
              have c0 := HE6.out.a.p.c0
              have c1 := HE6.out.a.p.c1
              have x0 : (wr).cell? ⟨xb, 0, none⟩ = some (.int .i64 (c)) := HE6.out.b.is 0 (by omega)
              have x1 : (wr).cell? ⟨xb, 1, none⟩ = some (.int .i64 (o)) := HE6.out.b.is 1 (by omega)
              have x2 : (wr).cell? ⟨xb, 2, none⟩ = some (.int .i64 (l)) := HE6.out.b.is 2 (by omega)
              have hrl := HE6.out.a.r.b.lt
              have hxl := HE6.out.b.lt
              have hpl := HE6.out.a.p.bp.lt
              have dj : decide ((j : Int) < (nn : Int)) = true := by simp; omega
              have FM1 := hid (fun (w' : World) (h : Below wr.heap.size wr w') => freeM_any M T l6 q.r c tn (q.t + o) w' (HE6.out.a.t.below h) ⟨by have := HOK.out.r; have := HE6.out.a.f.ok.nb; omega, by have := HOK.out.r; have := HE6.out.a.f.ok.nb; omega⟩ ⟨by omega, by omega⟩ ⟨by omega, by omega⟩ ⟨by omega, by omega⟩)
              clear hx hdr
              cases hfm : T.freeM q.r c tn (q.t + o) with
              | false =>
                rw [hfm] at FM1 heq
                rw [if_neg (by simp)] at heq
                have HE := hid heq
                clear heq hfm
                go_wp2
                first | with_reducible refine wp_region_ext2 (by kernel_rfl) (by kernel_rfl) ?_ | refine wp_region_ext (by kernel_rfl) (by kernel_rfl) ?_
                repeat (go_big_quiet_step ((go_at_call 63; exact Calls.ext_of (FM1.out _ (by (repeat (first | with_reducible exact Below.rf _ | with_reducible exact World.below_ext _ _ | with_reducible refine Below.ex ?_ _ | with_reducible refine Below.al ?_ _ | with_reducible refine Below.setCell ?_ (by simp) _ | with_reducible refine Below.drew ?_)))))))
                refine wpQuiet_nil ?_
                rintro _ ⟨z, rfl⟩
                go_wp2
                go_roundw
                case rel => exact ⟨j + 1, l6, N6, S6, n6, d, by go_num, by omega, HE.out, HI6.out, by omega, HE6.out.below (by (repeat (first | with_reducible exact Below.rf _ | with_reducible exact World.below_ext _ _ | with_reducible refine Below.ex ?_ _ | with_reducible refine Below.al ?_ _ | with_reducible refine Below.setCell ?_ (by simp) _ | with_reducible refine Below.drew ?_)))⟩
                case measure => simp [intOf]; omega
              | true =>
                rw [hfm] at FM1 heq
                rw [if_pos rfl] at heq
                have HE := hid heq
                have HRI : Hid (id < (S6.reach F q.gl bay hz tn (o + 1) l id).nd.length) := Nat.lt_of_lt_of_le HI6.out (HE6.out.s.reach (bay := bay) tn (o + 1) l id (by omega) (by rw [HK.out]; omega) ⟨by omega, by have := HI6.out; omega⟩).2
                have RE := hid (HE6.out.call HOK.out tn (o + 1) l id tn ((o : Int) + 1) l id rfl (by omega) rfl rfl (by omega) (by rw [HK.out]; omega) (by omega) HI6.out hB hn (by omega))
                clear heq hfm
                go_wp2
                first | with_reducible refine wp_region_ext2 (by kernel_rfl) (by kernel_rfl) ?_ | refine wp_region_ext (by kernel_rfl) (by kernel_rfl) ?_
                repeat (go_big_quiet_step ((go_at_call 63; exact Calls.ext_of (FM1.out _ (by (repeat (first | with_reducible exact Below.rf _ | with_reducible exact World.below_ext _ _ | with_reducible refine Below.ex ?_ _ | with_reducible refine Below.al ?_ _ | with_reducible refine Below.setCell ?_ (by simp) _ | with_reducible refine Below.drew ?_)))))))
                refine wpQuiet_nil ?_
                rintro _ ⟨z, rfl⟩
                go_wp2_with (first | (go_at_call 86; refine (RE.out _ (by (repeat (first | with_reducible exact Below.rf _ | with_reducible exact World.below_ext _ _ | with_reducible refine Below.ex ?_ _ | with_reducible refine Below.al ?_ _ | with_reducible refine Below.setCell ?_ (by simp) _ | with_reducible refine Below.drew ?_)))).mono ?_; rintro e w7 ⟨rfl, l7, N7, n7, hK7⟩))
                go_roundw
                case rel => exact ⟨j + 1, l7, N7, _, n7, d + 1, by go_num, by omega, HE.out, HRI.out, by omega, hK7⟩
                case measure => simp [intOf]; omega
            · rw [List.drop_eq_nil_of_le (by rw [HNN.out]; omega), nearGo] at heq
              have HE := hid heq
              have dj : decide ((j : Int) < (nn : Int)) = false := by simp; omega
              clear heq
              go_wp2
              refine bodyPost_end (v := .tuple #[]) (by simp [results, Try.results90, go_sem]) rfl ?_
              rw [← HE.out]
              exact ⟨l6, N6, n6, rfl, HE6.out.a.p, HE6.out.p, by have := HE6.out.n; omega, HE6.out.g, HE6.out.k⟩
      | true =>
        rw [hst] at CS
        have HR1 : Hid (nearGo F T q bay hz c o l id (F.near c) ((S.reach F q.gl bay hz c (o + gd) (l + 1) id).exp2 F T q bay hz c o l id) = res) := by
          have h1 := HRES.out
          unfold PS.expand at h1
          simp only at h1
          rw [← HXP.out, hst, if_pos (by simp)] at h1
          exact h1
        have RE := hid (KS.out.call HOK.out c (o + gd) (l + 1) id c ((o : Int) + (gd : Int)) ((l : Int) + 1) id rfl (by omega) (by omega) rfl (by omega) (by rw [HK.out]; omega) (by omega) HSI0.out hB hn (by omega))
        have HSI : Hid (id < (S.reach F q.gl bay hz c (o + gd) (l + 1) id).nd.length) := Nat.lt_of_lt_of_le HSI0.out (KS.out.s.reach (bay := bay) c (o + gd) (l + 1) id (by omega) (by rw [HK.out]; omega) ⟨by omega, by have := HSI0.out; omega⟩).2
        clear hst HSI0
        first | with_reducible refine wp_region_ext2 (by kernel_rfl) (by kernel_rfl) ?_ | refine wp_region_ext (by kernel_rfl) (by kernel_rfl) ?_
        repeat (go_big_quiet_step (fail))
        refine wpQuiet_nil ?_
        rintro _ ⟨z, rfl⟩
        go_wp2
        first | with_reducible refine wp_region_ext2 (by kernel_rfl) (by kernel_rfl) ?_ | refine wp_region_ext (by kernel_rfl) (by kernel_rfl) ?_
        repeat (go_big_quiet_step (fail))
        refine wpQuiet_nil ?_
        rintro _ ⟨z, rfl⟩
        go_wp2
        refine wp_region_tree 10 (fun w' => w'.cell? ⟨rb, 4, none⟩ = some (.slice (some ⟨gb, 0, none⟩) k gc) ∧ w'.cell? ⟨xb, 2, none⟩ = some (.int .i64 (l)) ∧ w'.cell? ⟨gb, l * 2, none⟩ = some (.int .i64 (c)) ∧ w'.cell? ⟨gb, l * 2 + 1, none⟩ = some (.int .i64 (gd))) (.q 0 false (.q 1 false (.q 2 false (.q 3 false (.q 4 true (.q 5 false (.q 6 true (.q 7 false (.q 8 true (.one 9 true (.one 10 false .nil))))))))))) (by kernel_rfl) (by kernel_rfl) (by kernel_rfl) ?_ ?_
        · simp [go_sem, ↓IntWalk.iteOmega, *]
        repeat (first | (refine wpTr_qf (v := ?_) rfl rfl ?_ ?_; rotate_left; focus (intro w; go_simp; (try (with_reducible rfl)); done); try simp only [List.getElem_toArray, List.getElem_cons_zero, List.getElem_cons_succ, Act.put, List.setIfInBounds_toArray, List.set_cons_zero, List.set_cons_succ]) | (refine wpTr_qt (v := ?_) rfl rfl ?_ ?_; rotate_left; focus (intro w hSw; (try dsimp only at hSw); go_simp; (try (with_reducible rfl)); done); try simp only [List.getElem_toArray, List.getElem_cons_zero, List.getElem_cons_succ, Act.put, List.setIfInBounds_toArray, List.set_cons_zero, List.set_cons_succ]))
        refine wpTr_one rfl rfl (fun K hK => ?_)
        go_simp
        refine hK.out _ _ (fun _ => by simp [go_sem, ↓IntWalk.iteOmega, *]) ?_
        clear hK K
        refine wpTr_one rfl rfl (fun K hK => ?_)
        go_simp
        refine hK.out _ _ (fun h => by cases h) ?_
        clear hK K
        refine wpTr_nil ?_
        refine NoPanic.normal ?_
        go_wp2_with (first | (go_at_call 98; refine (CS.out _ (by (repeat (first | with_reducible exact Below.rf _ | with_reducible exact World.below_ext _ _ | with_reducible refine Below.ex ?_ _ | with_reducible refine Below.al ?_ _ | with_reducible refine Below.setCell ?_ (by simp) _ | with_reducible refine Below.drew ?_)))).mono ?_; rintro e w7 ⟨rfl, z7, rfl⟩) | (go_at_call 86; refine (RE.out _ (by (repeat (first | with_reducible exact Below.rf _ | with_reducible exact World.below_ext _ _ | with_reducible refine Below.ex ?_ _ | with_reducible refine Below.al ?_ _ | with_reducible refine Below.setCell ?_ (by simp) _ | with_reducible refine Below.drew ?_)))).mono ?_; rintro e wS ⟨rfl, lS, NS, nS, hKU⟩))
        have KU := hid hKU
        clear hKU KS r1 r3 r4 x1 x2 hrl hxl x0 y0 y1 CS RE
        obtain ⟨SS, hSS⟩ : ∃ y, S.reach F q.gl bay hz c (o + gd) (l + 1) id = y := ⟨_, rfl⟩
        rw [hSS] at KU HR1 HSI
        clear hSS
        have r0 : (wS).cell? ⟨rb, 0, none⟩ = some (.pointer (some ⟨(NS).p, 0, none⟩)) := KU.out.a.r.b.is 0 (by omega)
        have c0 := KU.out.a.p.c0
        have c1 := KU.out.a.p.c1
        have x0 : (wS).cell? ⟨xb, 0, none⟩ = some (.int .i64 (c)) := KU.out.b.is 0 (by omega)
        have x1 : (wS).cell? ⟨xb, 1, none⟩ = some (.int .i64 (o)) := KU.out.b.is 1 (by omega)
        have x2 : (wS).cell? ⟨xb, 2, none⟩ = some (.int .i64 (l)) := KU.out.b.is 2 (by omega)
        have hrl := KU.out.a.r.b.lt
        have hxl := KU.out.b.lt
        have hpl := KU.out.a.p.bp.lt
        have FM1 := hid (fun (w' : World) (h : Below wS.heap.size wS w') => freeM_any M T lS q.r c c (q.t + o) w' (KU.out.a.t.below h) ⟨by have := HOK.out.r; have := KU.out.a.f.ok.nb; omega, by have := HOK.out.r; have := KU.out.a.f.ok.nb; omega⟩ ⟨by omega, by omega⟩ ⟨by omega, by omega⟩ ⟨by omega, by omega⟩)
        cases hfm : T.freeM q.r c c (q.t + o) with
        | false =>
          rw [hfm] at FM1
          have HR2 : Hid (nearGo F T q bay hz c o l id (F.near c) SS = res) := by
            have := HR1.out
            unfold PS.exp2 at this
            rw [hfm, if_neg (by simp)] at this
            exact this
          clear hfm
          first | with_reducible refine wp_region_ext2 (by kernel_rfl) (by kernel_rfl) ?_ | refine wp_region_ext (by kernel_rfl) (by kernel_rfl) ?_
          repeat (go_big_quiet_step ((go_at_call 63; exact Calls.ext_of (FM1.out _ (by (repeat (first | with_reducible exact Below.rf _ | with_reducible exact World.below_ext _ _ | with_reducible refine Below.ex ?_ _ | with_reducible refine Below.al ?_ _ | with_reducible refine Below.setCell ?_ (by simp) _ | with_reducible refine Below.drew ?_)))))))
          refine wpQuiet_nil ?_
          rintro _ ⟨z, rfl⟩
          go_wp2
          refine wp_name fun wT hwT => ?_
          have KW := hid (KU.out.below (w' := wT) (by rw [hwT]; (repeat (first | with_reducible exact Below.rf _ | with_reducible exact World.below_ext _ _ | with_reducible refine Below.ex ?_ _ | with_reducible refine Below.al ?_ _ | with_reducible refine Below.setCell ?_ (by simp) _ | with_reducible refine Below.drew ?_)))).more
          clear hwT KU FM1 r0 c0 c1 x0 x1 x2 hrl hxl hpl HR1
          obtain ⟨lT, hlT⟩ : ∃ y, lS = y := ⟨_, rfl⟩
          obtain ⟨NT, hNT⟩ : ∃ y, NS = y := ⟨_, rfl⟩
          obtain ⟨ST, hST⟩ : ∃ y, SS = y := ⟨_, rfl⟩
          obtain ⟨nT, hnT⟩ : ∃ y, nS = y := ⟨_, rfl⟩
          rw [hlT, hNT, hST, hnT] at KW
          rw [hST] at HR2
          have HRI : Hid (id < ST.nd.length) := by rw [← hST]; exact HSI.out
          clear hlT hNT hST hnT HSI
          have r0 : (wT).cell? ⟨rb, 0, none⟩ = some (.pointer (some ⟨(NT).p, 0, none⟩)) := KW.out.a.r.b.is 0 (by omega)
          have c0 := KW.out.a.p.c0
          have c1 := KW.out.a.p.c1
          have x0 : (wT).cell? ⟨xb, 0, none⟩ = some (.int .i64 (c)) := KW.out.b.is 0 (by omega)
          have x1 : (wT).cell? ⟨xb, 1, none⟩ = some (.int .i64 (o)) := KW.out.b.is 1 (by omega)
          have x2 : (wT).cell? ⟨xb, 2, none⟩ = some (.int .i64 (l)) := KW.out.b.is 2 (by omega)
          have hrl := KW.out.a.r.b.lt
          have hxl := KW.out.b.lt
          have hpl := KW.out.a.p.bp.lt
          first | with_reducible refine wp_region_ext2 (by kernel_rfl) (by kernel_rfl) ?_ | refine wp_region_ext (by kernel_rfl) (by kernel_rfl) ?_
          repeat (go_big_quiet_step ((go_at_call 32; exact Calls.ext_of_same (NV.out _ (KW.out.below (by (repeat (first | with_reducible exact Below.rf _ | with_reducible exact World.below_ext _ _ | with_reducible refine Below.ex ?_ _ | with_reducible refine Below.al ?_ _ | with_reducible refine Below.setCell ?_ (by simp) _ | with_reducible refine Below.drew ?_)))).k))))
          refine wpQuiet_nil ?_
          rintro _ ⟨z, rfl⟩
          go_wp2
          go_loopw [113] (fun y wr => ∃ (j : Nat) (l6 : Nat → Nat) (N6 : PM) (S6 : PS) (n6 d : Nat), y = .int .i64 (j) ∧ j ≤ nn ∧ nearGo F T q bay hz c o l id ((F.near c).drop j) S6 = res ∧ id < S6.nd.length ∧ d ≤ 2 + j ∧ ExS lab w xb ⟨c, o, l, p⟩ M T rb fb F q gv tv av bay hz N.p n B wr l6 N6 S6 n6 d) (fun y _ => nn - (intOf y).toNat)
          case atStart => exact ⟨0, lT, NT, ST, nT, 2, rfl, Nat.zero_le _, HR2.out, HRI.out, by omega, KW.out.below (by (repeat (first | with_reducible exact Below.rf _ | with_reducible exact World.below_ext _ _ | with_reducible refine Below.ex ?_ _ | with_reducible refine Below.al ?_ _ | with_reducible refine Below.setCell ?_ (by simp) _ | with_reducible refine Below.drew ?_)))⟩
          case round =>
            obtain ⟨j, l6, N6, S6, n6, d, rfl, hj, heq, hi6, hd, hE⟩ := hrel
            have HE6 := hid hE
            have HI6 := hid hi6
            clear KW HR2 HRI r0 c0 c1 x0 x1 x2 hrl hxl hpl hE hi6
            by_cases hjn : j < nn
            · have hjl : j < (F.near c).length := by rw [HNN.out]; exact hjn
              have hx : (F.near c)[j]? = some (F.near c)[j] := List.getElem?_eq_getElem hjl
              have hdr : (F.near c).drop j = (F.near c)[j] :: (F.near c).drop (j + 1) := List.drop_eq_getElem_cons hjl
              have htb := HE6.out.a.f.ok.near c _ (List.getElem_mem hjl)
              rw [hdr, nearGo] at heq
              generalize (F.near c)[j] = to at *
              obtain ⟨b, a, n', cap', hv, hbl, -, cq⟩ := (HVI.out.keptL HE6.out.k (fun x hx => by unfold scrL at hx; omega)).row j to hx
              simp only [Value.slice.injEq] at hv
              obtain ⟨rfl, -, -⟩ := hv
              obtain ⟨tn, rfl⟩ : ∃ tn : Nat, to = tn := ⟨to.toNat, by omega⟩
              rw [Int.toNat_natCast] at heq
              have r0 : (wr).cell? ⟨rb, 0, none⟩ = some (.pointer (some ⟨(N6).p, 0, none⟩)) := HE6.out.a.r.b.is 0 (by omega)
              have c0 := HE6.out.a.p.c0
              have c1 := HE6.out.a.p.c1
              have x0 : (wr).cell? ⟨xb, 0, none⟩ = some (.int .i64 (c)) := HE6.out.b.is 0 (by omega)
              have x1 : (wr).cell? ⟨xb, 1, none⟩ = some (.int .i64 (o)) := HE6.out.b.is 1 (by omega)
              have x2 : (wr).cell? ⟨xb, 2, none⟩ = some (.int .i64 (l)) := HE6.out.b.is 2 (by omega)
              have hrl := HE6.out.a.r.b.lt
              have hxl := HE6.out.b.lt
              have hpl := HE6.out.a.p.bp.lt
              have dj : decide ((j : Int) < (nn : Int)) = true := by simp; omega
              have FM1 := hid (fun (w' : World) (h : Below wr.heap.size wr w') => freeM_any M T l6 q.r c tn (q.t + o) w' (HE6.out.a.t.below h) ⟨by have := HOK.out.r; have := HE6.out.a.f.ok.nb; omega, by have := HOK.out.r; have := HE6.out.a.f.ok.nb; omega⟩ ⟨by omega, by omega⟩ ⟨by omega, by omega⟩ ⟨by omega, by omega⟩)
              clear hx hdr
              cases hfm : T.freeM q.r c tn (q.t + o) with
              | false =>
                rw [hfm] at FM1 heq
                rw [if_neg (by simp)] at heq
                have HE := hid heq
                clear heq hfm
                go_wp2
                first | with_reducible refine wp_region_ext2 (by kernel_rfl) (by kernel_rfl) ?_ | refine wp_region_ext (by kernel_rfl) (by kernel_rfl) ?_
                repeat (go_big_quiet_step ((go_at_call 63; exact Calls.ext_of (FM1.out _ (by (repeat (first | with_reducible exact Below.rf _ | with_reducible exact World.below_ext _ _ | with_reducible refine Below.ex ?_ _ | with_reducible refine Below.al ?_ _ | with_reducible refine Below.setCell ?_ (by simp) _ | with_reducible refine Below.drew ?_)))))))
                refine wpQuiet_nil ?_
                rintro _ ⟨z, rfl⟩
                go_wp2
                go_roundw
                case rel => exact ⟨j + 1, l6, N6, S6, n6, d, by go_num, by omega, HE.out, HI6.out, by omega, HE6.out.below (by (repeat (first | with_reducible exact Below.rf _ | with_reducible exact World.below_ext _ _ | with_reducible refine Below.ex ?_ _ | with_reducible refine Below.al ?_ _ | with_reducible refine Below.setCell ?_ (by simp) _ | with_reducible refine Below.drew ?_)))⟩
                case measure => simp [intOf]; omega
              | true =>
                rw [hfm] at FM1 heq
                rw [if_pos rfl] at heq
                have HE := hid heq
                have HRI : Hid (id < (S6.reach F q.gl bay hz tn (o + 1) l id).nd.length) := Nat.lt_of_lt_of_le HI6.out (HE6.out.s.reach (bay := bay) tn (o + 1) l id (by omega) (by rw [HK.out]; omega) ⟨by omega, by have := HI6.out; omega⟩).2
                have RE := hid (HE6.out.call HOK.out tn (o + 1) l id tn ((o : Int) + 1) l id rfl (by omega) rfl rfl (by omega) (by rw [HK.out]; omega) (by omega) HI6.out hB hn (by omega))
                clear heq hfm
                go_wp2
                first | with_reducible refine wp_region_ext2 (by kernel_rfl) (by kernel_rfl) ?_ | refine wp_region_ext (by kernel_rfl) (by kernel_rfl) ?_
                repeat (go_big_quiet_step ((go_at_call 63; exact Calls.ext_of (FM1.out _ (by (repeat (first | with_reducible exact Below.rf _ | with_reducible exact World.below_ext _ _ | with_reducible refine Below.ex ?_ _ | with_reducible refine Below.al ?_ _ | with_reducible refine Below.setCell ?_ (by simp) _ | with_reducible refine Below.drew ?_)))))))
                refine wpQuiet_nil ?_
                rintro _ ⟨z, rfl⟩
                go_wp2_with (first | (go_at_call 86; refine (RE.out _ (by (repeat (first | with_reducible exact Below.rf _ | with_reducible exact World.below_ext _ _ | with_reducible refine Below.ex ?_ _ | with_reducible refine Below.al ?_ _ | with_reducible refine Below.setCell ?_ (by simp) _ | with_reducible refine Below.drew ?_)))).mono ?_; rintro e w7 ⟨rfl, l7, N7, n7, hK7⟩))
                go_roundw
                case rel => exact ⟨j + 1, l7, N7, _, n7, d + 1, by go_num, by omega, HE.out, HRI.out, by omega, hK7⟩
                case measure => simp [intOf]; omega
            · rw [List.drop_eq_nil_of_le (by rw [HNN.out]; omega), nearGo] at heq
              have HE := hid heq
              have dj : decide ((j : Int) < (nn : Int)) = false := by simp; omega
              clear heq
              go_wp2
              refine bodyPost_end (v := .tuple #[]) (by simp [results, Try.results90, go_sem]) rfl ?_
              rw [← HE.out]
              exact ⟨l6, N6, n6, rfl, HE6.out.a.p, HE6.out.p, by have := HE6.out.n; omega, HE6.out.g, HE6.out.k⟩
        | true =>
          rw [hfm] at FM1
          have HR2 : Hid (nearGo F T q bay hz c o l id (F.near c) (SS.reach F q.gl bay hz c (o + 1) l id) = res) := by
            have := HR1.out
            unfold PS.exp2 at this
            rw [hfm, if_pos rfl] at this
            exact this
          have HRI : Hid (id < (SS.reach F q.gl bay hz c (o + 1) l id).nd.length) := Nat.lt_of_lt_of_le HSI.out (KU.out.s.reach (bay := bay) c (o + 1) l id (by omega) (by rw [HK.out]; omega) ⟨by omega, by have := HSI.out; omega⟩).2
          have RE := hid (KU.out.call HOK.out c (o + 1) l id c ((o : Int) + 1) l id rfl (by omega) rfl rfl (by omega) (by rw [HK.out]; omega) (by omega) HSI.out hB hn (by omega))
          clear hfm
          first | with_reducible refine wp_region_ext2 (by kernel_rfl) (by kernel_rfl) ?_ | refine wp_region_ext (by kernel_rfl) (by kernel_rfl) ?_
          repeat (go_big_quiet_step ((go_at_call 63; exact Calls.ext_of (FM1.out _ (by (repeat (first | with_reducible exact Below.rf _ | with_reducible exact World.below_ext _ _ | with_reducible refine Below.ex ?_ _ | with_reducible refine Below.al ?_ _ | with_reducible refine Below.setCell ?_ (by simp) _ | with_reducible refine Below.drew ?_)))))))
          refine wpQuiet_nil ?_
          rintro _ ⟨z, rfl⟩
          go_wp2_with (first | (go_at_call 86; refine (RE.out _ (by (repeat (first | with_reducible exact Below.rf _ | with_reducible exact World.below_ext _ _ | with_reducible refine Below.ex ?_ _ | with_reducible refine Below.al ?_ _ | with_reducible refine Below.setCell ?_ (by simp) _ | with_reducible refine Below.drew ?_)))).mono ?_; rintro e wT ⟨rfl, lT, NT, nT, hKW⟩))
          have KW := hid hKW
          clear hKW KU FM1 RE r0 c0 c1 x0 x1 x2 hrl hxl hpl HR1 HSI
          obtain ⟨ST, hST⟩ : ∃ y, SS.reach F q.gl bay hz c (o + 1) l id = y := ⟨_, rfl⟩
          rw [hST] at KW HR2 HRI
          clear hST
          have r0 : (wT).cell? ⟨rb, 0, none⟩ = some (.pointer (some ⟨(NT).p, 0, none⟩)) := KW.out.a.r.b.is 0 (by omega)
          have c0 := KW.out.a.p.c0
          have c1 := KW.out.a.p.c1
          have x0 : (wT).cell? ⟨xb, 0, none⟩ = some (.int .i64 (c)) := KW.out.b.is 0 (by omega)
          have x1 : (wT).cell? ⟨xb, 1, none⟩ = some (.int .i64 (o)) := KW.out.b.is 1 (by omega)
          have x2 : (wT).cell? ⟨xb, 2, none⟩ = some (.int .i64 (l)) := KW.out.b.is 2 (by omega)
          have hrl := KW.out.a.r.b.lt
          have hxl := KW.out.b.lt
          have hpl := KW.out.a.p.bp.lt
          first | with_reducible refine wp_region_ext2 (by kernel_rfl) (by kernel_rfl) ?_ | refine wp_region_ext (by kernel_rfl) (by kernel_rfl) ?_
          repeat (go_big_quiet_step ((go_at_call 32; exact Calls.ext_of_same (NV.out _ (KW.out.below (by (repeat (first | with_reducible exact Below.rf _ | with_reducible exact World.below_ext _ _ | with_reducible refine Below.ex ?_ _ | with_reducible refine Below.al ?_ _ | with_reducible refine Below.setCell ?_ (by simp) _ | with_reducible refine Below.drew ?_)))).k))))
          refine wpQuiet_nil ?_
          rintro _ ⟨z, rfl⟩
          go_wp2
          go_loopw [113] (fun y wr => ∃ (j : Nat) (l6 : Nat → Nat) (N6 : PM) (S6 : PS) (n6 d : Nat), y = .int .i64 (j) ∧ j ≤ nn ∧ nearGo F T q bay hz c o l id ((F.near c).drop j) S6 = res ∧ id < S6.nd.length ∧ d ≤ 2 + j ∧ ExS lab w xb ⟨c, o, l, p⟩ M T rb fb F q gv tv av bay hz N.p n B wr l6 N6 S6 n6 d) (fun y _ => nn - (intOf y).toNat)
          case atStart => exact ⟨0, lT, NT, ST, nT, 2, rfl, Nat.zero_le _, HR2.out, HRI.out, by omega, KW.out.below (by (repeat (first | with_reducible exact Below.rf _ | with_reducible exact World.below_ext _ _ | with_reducible refine Below.ex ?_ _ | with_reducible refine Below.al ?_ _ | with_reducible refine Below.setCell ?_ (by simp) _ | with_reducible refine Below.drew ?_)))⟩
          case round =>
            obtain ⟨j, l6, N6, S6, n6, d, rfl, hj, heq, hi6, hd, hE⟩ := hrel
            have HE6 := hid hE
            have HI6 := hid hi6
            clear KW HR2 HRI r0 c0 c1 x0 x1 x2 hrl hxl hpl hE hi6
            by_cases hjn : j < nn
            · have hjl : j < (F.near c).length := by rw [HNN.out]; exact hjn
              have hx : (F.near c)[j]? = some (F.near c)[j] := List.getElem?_eq_getElem hjl
              have hdr : (F.near c).drop j = (F.near c)[j] :: (F.near c).drop (j + 1) := List.drop_eq_getElem_cons hjl
              have htb := HE6.out.a.f.ok.near c _ (List.getElem_mem hjl)
              rw [hdr, nearGo] at heq
              generalize (F.near c)[j] = to at *
              obtain ⟨b, a, n', cap', hv, hbl, -, cq⟩ := (HVI.out.keptL HE6.out.k (fun x hx => by unfold scrL at hx; omega)).row j to hx
              simp only [Value.slice.injEq] at hv
              obtain ⟨rfl, -, -⟩ := hv
              obtain ⟨tn, rfl⟩ : ∃ tn : Nat, to = tn := ⟨to.toNat, by omega⟩
              rw [Int.toNat_natCast] at heq
              have r0 : (wr).cell? ⟨rb, 0, none⟩ = some (.pointer (some ⟨(N6).p, 0, none⟩)) := HE6.out.a.r.b.is 0 (by omega)
              have c0 := HE6.out.a.p.c0
              have c1 := HE6.out.a.p.c1
              have x0 : (wr).cell? ⟨xb, 0, none⟩ = some (.int .i64 (c)) := HE6.out.b.is 0 (by omega)
              have x1 : (wr).cell? ⟨xb, 1, none⟩ = some (.int .i64 (o)) := HE6.out.b.is 1 (by omega)
              have x2 : (wr).cell? ⟨xb, 2, none⟩ = some (.int .i64 (l)) := HE6.out.b.is 2 (by omega)
              have hrl := HE6.out.a.r.b.lt
              have hxl := HE6.out.b.lt
              have hpl := HE6.out.a.p.bp.lt
              have dj : decide ((j : Int) < (nn : Int)) = true := by simp; omega
              have FM1 := hid (fun (w' : World) (h : Below wr.heap.size wr w') => freeM_any M T l6 q.r c tn (q.t + o) w' (HE6.out.a.t.below h) ⟨by have := HOK.out.r; have := HE6.out.a.f.ok.nb; omega, by have := HOK.out.r; have := HE6.out.a.f.ok.nb; omega⟩ ⟨by omega, by omega⟩ ⟨by omega, by omega⟩ ⟨by omega, by omega⟩)
              clear hx hdr
              cases hfm : T.freeM q.r c tn (q.t + o) with
              | false =>
                rw [hfm] at FM1 heq
                rw [if_neg (by simp)] at heq
                have HE := hid heq
                clear heq hfm
                go_wp2
                first | with_reducible refine wp_region_ext2 (by kernel_rfl) (by kernel_rfl) ?_ | refine wp_region_ext (by kernel_rfl) (by kernel_rfl) ?_
                repeat (go_big_quiet_step ((go_at_call 63; exact Calls.ext_of (FM1.out _ (by (repeat (first | with_reducible exact Below.rf _ | with_reducible exact World.below_ext _ _ | with_reducible refine Below.ex ?_ _ | with_reducible refine Below.al ?_ _ | with_reducible refine Below.setCell ?_ (by simp) _ | with_reducible refine Below.drew ?_)))))))
                refine wpQuiet_nil ?_
                rintro _ ⟨z, rfl⟩
                go_wp2
                go_roundw
                case rel => exact ⟨j + 1, l6, N6, S6, n6, d, by go_num, by omega, HE.out, HI6.out, by omega, HE6.out.below (by (repeat (first | with_reducible exact Below.rf _ | with_reducible exact World.below_ext _ _ | with_reducible refine Below.ex ?_ _ | with_reducible refine Below.al ?_ _ | with_reducible refine Below.setCell ?_ (by simp) _ | with_reducible refine Below.drew ?_)))⟩
                case measure => simp [intOf]; omega
              | true =>
                rw [hfm] at FM1 heq
                rw [if_pos rfl] at heq
                have HE := hid heq
                have HRI : Hid (id < (S6.reach F q.gl bay hz tn (o + 1) l id).nd.length) := Nat.lt_of_lt_of_le HI6.out (HE6.out.s.reach (bay := bay) tn (o + 1) l id (by omega) (by rw [HK.out]; omega) ⟨by omega, by have := HI6.out; omega⟩).2
                have RE := hid (HE6.out.call HOK.out tn (o + 1) l id tn ((o : Int) + 1) l id rfl (by omega) rfl rfl (by omega) (by rw [HK.out]; omega) (by omega) HI6.out hB hn (by omega))
                clear heq hfm
                go_wp2
                first | with_reducible refine wp_region_ext2 (by kernel_rfl) (by kernel_rfl) ?_ | refine wp_region_ext (by kernel_rfl) (by kernel_rfl) ?_
                repeat (go_big_quiet_step ((go_at_call 63; exact Calls.ext_of (FM1.out _ (by (repeat (first | with_reducible exact Below.rf _ | with_reducible exact World.below_ext _ _ | with_reducible refine Below.ex ?_ _ | with_reducible refine Below.al ?_ _ | with_reducible refine Below.setCell ?_ (by simp) _ | with_reducible refine Below.drew ?_)))))))
                refine wpQuiet_nil ?_
                rintro _ ⟨z, rfl⟩
                go_wp2_with (first | (go_at_call 86; refine (RE.out _ (by (repeat (first | with_reducible exact Below.rf _ | with_reducible exact World.below_ext _ _ | with_reducible refine Below.ex ?_ _ | with_reducible refine Below.al ?_ _ | with_reducible refine Below.setCell ?_ (by simp) _ | with_reducible refine Below.drew ?_)))).mono ?_; rintro e w7 ⟨rfl, l7, N7, n7, hK7⟩))
                go_roundw
                case rel => exact ⟨j + 1, l7, N7, _, n7, d + 1, by go_num, by omega, HE.out, HRI.out, by omega, hK7⟩
                case measure => simp [intOf]; omega
            · rw [List.drop_eq_nil_of_le (by rw [HNN.out]; omega), nearGo] at heq
              have HE := hid heq
              have dj : decide ((j : Int) < (nn : Int)) = false := by simp; omega
              clear heq
              go_wp2
              refine bodyPost_end (v := .tuple #[]) (by simp [results, Try.results90, go_sem]) rfl ?_
              rw [← HE.out]
              exact ⟨l6, N6, n6, rfl, HE6.out.a.p, HE6.out.p, by have := HE6.out.n; omega, HE6.out.g, HE6.out.k⟩
    · have dg : ((gc1 : Int) == (c : Int)) = false := by simp; omega
      have HR1 : Hid (nearGo F T q bay hz c o l id (F.near c) (S.exp2 F T q bay hz c o l id) = res) := by
        have h1 := HRES.out
        unfold PS.expand at h1
        simp only at h1
        rw [← HXP.out, if_neg (fun h => gcc (by have := h.1; omega))] at h1
        exact h1
      clear gcc
      first | with_reducible refine wp_region_ext2 (by kernel_rfl) (by kernel_rfl) ?_ | refine wp_region_ext (by kernel_rfl) (by kernel_rfl) ?_
      repeat (go_big_quiet_step (fail))
      refine wpQuiet_nil ?_
      rintro _ ⟨z, rfl⟩
      go_wp2
      first | with_reducible refine wp_region_ext2 (by kernel_rfl) (by kernel_rfl) ?_ | refine wp_region_ext (by kernel_rfl) (by kernel_rfl) ?_
      repeat (go_big_quiet_step (fail))
      refine wpQuiet_nil ?_
      rintro _ ⟨z, rfl⟩
      go_wp2
      refine wp_region_tree 10 (fun w' => w'.cell? ⟨rb, 4, none⟩ = some (.slice (some ⟨gb, 0, none⟩) k gc) ∧ w'.cell? ⟨xb, 2, none⟩ = some (.int .i64 (l)) ∧ w'.cell? ⟨gb, l * 2, none⟩ = some (.int .i64 (gc1)) ∧ w'.cell? ⟨gb, l * 2 + 1, none⟩ = some (.int .i64 (gd))) (.q 0 false (.q 1 false (.q 2 false (.q 3 false (.q 4 true (.q 5 false (.q 6 true (.q 7 false (.q 8 true (.one 9 true (.one 10 false .nil))))))))))) (by kernel_rfl) (by kernel_rfl) (by kernel_rfl) ?_ ?_
      · simp [go_sem, ↓IntWalk.iteOmega, *]
      repeat (first | (refine wpTr_qf (v := ?_) rfl rfl ?_ ?_; rotate_left; focus (intro w; go_simp; (try (with_reducible rfl)); done); try simp only [List.getElem_toArray, List.getElem_cons_zero, List.getElem_cons_succ, Act.put, List.setIfInBounds_toArray, List.set_cons_zero, List.set_cons_succ]) | (refine wpTr_qt (v := ?_) rfl rfl ?_ ?_; rotate_left; focus (intro w hSw; (try dsimp only at hSw); go_simp; (try (with_reducible rfl)); done); try simp only [List.getElem_toArray, List.getElem_cons_zero, List.getElem_cons_succ, Act.put, List.setIfInBounds_toArray, List.set_cons_zero, List.set_cons_succ]))
      refine wpTr_one rfl rfl (fun K hK => ?_)
      go_simp
      refine hK.out _ _ (fun _ => by simp [go_sem, ↓IntWalk.iteOmega, *]) ?_
      clear hK K
      refine wpTr_one rfl rfl (fun K hK => ?_)
      go_simp
      refine hK.out _ _ (fun h => by cases h) ?_
      clear hK K
      refine wpTr_nil ?_
      refine NoPanic.normal ?_
      go_wp2
      refine wp_name fun wS hwS => ?_
      have KT := hid (KS.out.below (w' := wS) (by rw [hwS]; (repeat (first | with_reducible exact Below.rf _ | with_reducible exact World.below_ext _ _ | with_reducible refine Below.ex ?_ _ | with_reducible refine Below.al ?_ _ | with_reducible refine Below.setCell ?_ (by simp) _ | with_reducible refine Below.drew ?_)))).more
      clear hwS KS r1 r3 r4 x1 x2 hrl hxl x0 y0 y1 CS HSI0
      obtain ⟨lS, hlS⟩ : ∃ y, lA = y := ⟨_, rfl⟩
      obtain ⟨NS, hNS⟩ : ∃ y, N = y := ⟨_, rfl⟩
      obtain ⟨SS, hSS⟩ : ∃ y, S = y := ⟨_, rfl⟩
      obtain ⟨nS, hnS⟩ : ∃ y, n = y := ⟨_, rfl⟩
      rw [hlS] at KT
      rw [hSS] at HR1
      have KU : Hid (ExS lab w xb ⟨c, o, l, p⟩ M T rb fb F q gv tv av bay hz N.p n B wS lS NS SS nS 1) := by
        subst hNS hSS hnS
        exact KT.out
      have HSI : Hid (id < SS.nd.length) := by rw [← hSS, hnd]; exact hil
      clear KT hlS hNS hSS hnS
      have r0 : (wS).cell? ⟨rb, 0, none⟩ = some (.pointer (some ⟨(NS).p, 0, none⟩)) := KU.out.a.r.b.is 0 (by omega)
      have c0 := KU.out.a.p.c0
      have c1 := KU.out.a.p.c1
      have x0 : (wS).cell? ⟨xb, 0, none⟩ = some (.int .i64 (c)) := KU.out.b.is 0 (by omega)
      have x1 : (wS).cell? ⟨xb, 1, none⟩ = some (.int .i64 (o)) := KU.out.b.is 1 (by omega)
      have x2 : (wS).cell? ⟨xb, 2, none⟩ = some (.int .i64 (l)) := KU.out.b.is 2 (by omega)
      have hrl := KU.out.a.r.b.lt
      have hxl := KU.out.b.lt
      have hpl := KU.out.a.p.bp.lt
      have FM1 := hid (fun (w' : World) (h : Below wS.heap.size wS w') => freeM_any M T lS q.r c c (q.t + o) w' (KU.out.a.t.below h) ⟨by have := HOK.out.r; have := KU.out.a.f.ok.nb; omega, by have := HOK.out.r; have := KU.out.a.f.ok.nb; omega⟩ ⟨by omega, by omega⟩ ⟨by omega, by omega⟩ ⟨by omega, by omega⟩)
      cases hfm : T.freeM q.r c c (q.t + o) with
      | false =>
        rw [hfm] at FM1
        have HR2 : Hid (nearGo F T q bay hz c o l id (F.near c) SS = res) := by
          have := HR1.out
          unfold PS.exp2 at this
          rw [hfm, if_neg (by simp)] at this
          exact this
        clear hfm
        first | with_reducible refine wp_region_ext2 (by kernel_rfl) (by kernel_rfl) ?_ | refine wp_region_ext (by kernel_rfl) (by kernel_rfl) ?_
        repeat (go_big_quiet_step ((go_at_call 63; exact Calls.ext_of (FM1.out _ (by (repeat (first | with_reducible exact Below.rf _ | with_reducible exact World.below_ext _ _ | with_reducible refine Below.ex ?_ _ | with_reducible refine Below.al ?_ _ | with_reducible refine Below.setCell ?_ (by simp) _ | with_reducible refine Below.drew ?_)))))))
        refine wpQuiet_nil ?_
        rintro _ ⟨z, rfl⟩
        go_wp2
        refine wp_name fun wT hwT => ?_
        have KW := hid (KU.out.below (w' := wT) (by rw [hwT]; (repeat (first | with_reducible exact Below.rf _ | with_reducible exact World.below_ext _ _ | with_reducible refine Below.ex ?_ _ | with_reducible refine Below.al ?_ _ | with_reducible refine Below.setCell ?_ (by simp) _ | with_reducible refine Below.drew ?_)))).more
        clear hwT KU FM1 r0 c0 c1 x0 x1 x2 hrl hxl hpl HR1
        obtain ⟨lT, hlT⟩ : ∃ y, lS = y := ⟨_, rfl⟩
        obtain ⟨NT, hNT⟩ : ∃ y, NS = y := ⟨_, rfl⟩
        obtain ⟨ST, hST⟩ : ∃ y, SS = y := ⟨_, rfl⟩
        obtain ⟨nT, hnT⟩ : ∃ y, nS = y := ⟨_, rfl⟩
        rw [hlT, hNT, hST, hnT] at KW
        rw [hST] at HR2
        have HRI : Hid (id < ST.nd.length) := by rw [← hST]; exact HSI.out
        clear hlT hNT hST hnT HSI
        have r0 : (wT).cell? ⟨rb, 0, none⟩ = some (.pointer (some ⟨(NT).p, 0, none⟩)) := KW.out.a.r.b.is 0 (by omega)
        have c0 := KW.out.a.p.c0
        have c1 := KW.out.a.p.c1
        have x0 : (wT).cell? ⟨xb, 0, none⟩ = some (.int .i64 (c)) := KW.out.b.is 0 (by omega)
        have x1 : (wT).cell? ⟨xb, 1, none⟩ = some (.int .i64 (o)) := KW.out.b.is 1 (by omega)
        have x2 : (wT).cell? ⟨xb, 2, none⟩ = some (.int .i64 (l)) := KW.out.b.is 2 (by omega)
        have hrl := KW.out.a.r.b.lt
        have hxl := KW.out.b.lt
        have hpl := KW.out.a.p.bp.lt
        first | with_reducible refine wp_region_ext2 (by kernel_rfl) (by kernel_rfl) ?_ | refine wp_region_ext (by kernel_rfl) (by kernel_rfl) ?_
        repeat (go_big_quiet_step ((go_at_call 32; exact Calls.ext_of_same (NV.out _ (KW.out.below (by (repeat (first | with_reducible exact Below.rf _ | with_reducible exact World.below_ext _ _ | with_reducible refine Below.ex ?_ _ | with_reducible refine Below.al ?_ _ | with_reducible refine Below.setCell ?_ (by simp) _ | with_reducible refine Below.drew ?_)))).k))))
        refine wpQuiet_nil ?_
        rintro _ ⟨z, rfl⟩
        go_wp2
        go_loopw [113] (fun y wr => ∃ (j : Nat) (l6 : Nat → Nat) (N6 : PM) (S6 : PS) (n6 d : Nat), y = .int .i64 (j) ∧ j ≤ nn ∧ nearGo F T q bay hz c o l id ((F.near c).drop j) S6 = res ∧ id < S6.nd.length ∧ d ≤ 2 + j ∧ ExS lab w xb ⟨c, o, l, p⟩ M T rb fb F q gv tv av bay hz N.p n B wr l6 N6 S6 n6 d) (fun y _ => nn - (intOf y).toNat)
        case atStart => exact ⟨0, lT, NT, ST, nT, 2, rfl, Nat.zero_le _, HR2.out, HRI.out, by omega, KW.out.below (by (repeat (first | with_reducible exact Below.rf _ | with_reducible exact World.below_ext _ _ | with_reducible refine Below.ex ?_ _ | with_reducible refine Below.al ?_ _ | with_reducible refine Below.setCell ?_ (by simp) _ | with_reducible refine Below.drew ?_)))⟩
        case round =>
          obtain ⟨j, l6, N6, S6, n6, d, rfl, hj, heq, hi6, hd, hE⟩ := hrel
          have HE6 := hid hE
          have HI6 := hid hi6
          clear KW HR2 HRI r0 c0 c1 x0 x1 x2 hrl hxl hpl hE hi6
          by_cases hjn : j < nn
          · have hjl : j < (F.near c).length := by rw [HNN.out]; exact hjn
            have hx : (F.near c)[j]? = some (F.near c)[j] := List.getElem?_eq_getElem hjl
            have hdr : (F.near c).drop j = (F.near c)[j] :: (F.near c).drop (j + 1) := List.drop_eq_getElem_cons hjl
            have htb := HE6.out.a.f.ok.near c _ (List.getElem_mem hjl)
            rw [hdr, nearGo] at heq
            generalize (F.near c)[j] = to at *
            obtain ⟨b, a, n', cap', hv, hbl, -, cq⟩ := (HVI.out.keptL HE6.out.k (fun x hx => by unfold scrL at hx; omega)).row j to hx
            simp only [Value.slice.injEq] at hv
            obtain ⟨rfl, -, -⟩ := hv
            obtain ⟨tn, rfl⟩ : ∃ tn : Nat, to = tn := ⟨to.toNat, by omega⟩
            rw [Int.toNat_natCast] at heq
            have r0 : (wr).cell? ⟨rb, 0, none⟩ = some (.pointer (some ⟨(N6).p, 0, none⟩)) := HE6.out.a.r.b.is 0 (by omega)
            have c0 := HE6.out.a.p.c0
            have c1 := HE6.out.a.p.c1
            have x0 : (wr).cell? ⟨xb, 0, none⟩ = some (.int .i64 (c)) := HE6.out.b.is 0 (by omega)
            have x1 : (wr).cell? ⟨xb, 1, none⟩ = some (.int .i64 (o)) := HE6.out.b.is 1 (by omega)
            have x2 : (wr).cell? ⟨xb, 2, none⟩ = some (.int .i64 (l)) := HE6.out.b.is 2 (by omega)
            have hrl := HE6.out.a.r.b.lt
            have hxl := HE6.out.b.lt
            have hpl := HE6.out.a.p.bp.lt
            have dj : decide ((j : Int) < (nn : Int)) = true := by simp; omega
            have FM1 := hid (fun (w' : World) (h : Below wr.heap.size wr w') => freeM_any M T l6 q.r c tn (q.t + o) w' (HE6.out.a.t.below h) ⟨by have := HOK.out.r; have := HE6.out.a.f.ok.nb; omega, by have := HOK.out.r; have := HE6.out.a.f.ok.nb; omega⟩ ⟨by omega, by omega⟩ ⟨by omega, by omega⟩ ⟨by omega, by omega⟩)
            clear hx hdr
            cases hfm : T.freeM q.r c tn (q.t + o) with
            | false =>
              rw [hfm] at FM1 heq
              rw [if_neg (by simp)] at heq
              have HE := hid heq
              clear heq hfm
              go_wp2
              first | with_reducible refine wp_region_ext2 (by kernel_rfl) (by kernel_rfl) ?_ | refine wp_region_ext (by kernel_rfl) (by kernel_rfl) ?_
              repeat (go_big_quiet_step ((go_at_call 63; exact Calls.ext_of (FM1.out _ (by (repeat (first | with_reducible exact Below.rf _ | with_reducible exact World.below_ext _ _ | with_reducible refine Below.ex ?_ _ | with_reducible refine Below.al ?_ _ | with_reducible refine Below.setCell ?_ (by simp) _ | with_reducible refine Below.drew ?_)))))))
              refine wpQuiet_nil ?_
              rintro _ ⟨z, rfl⟩
              go_wp2
              go_roundw
              case rel => exact ⟨j + 1, l6, N6, S6, n6, d, by go_num, by omega, HE.out, HI6.out, by omega, HE6.out.below (by (repeat (first | with_reducible exact Below.rf _ | with_reducible exact World.below_ext _ _ | with_reducible refine Below.ex ?_ _ | with_reducible refine Below.al ?_ _ | with_reducible refine Below.setCell ?_ (by simp) _ | with_reducible refine Below.drew ?_)))⟩
              case measure => simp [intOf]; omega
            | true =>
              rw [hfm] at FM1 heq
              rw [if_pos rfl] at heq
              have HE := hid heq
              have HRI : Hid (id < (S6.reach F q.gl bay hz tn (o + 1) l id).nd.length) := Nat.lt_of_lt_of_le HI6.out (HE6.out.s.reach (bay := bay) tn (o + 1) l id (by omega) (by rw [HK.out]; omega) ⟨by omega, by have := HI6.out; omega⟩).2
              have RE := hid (HE6.out.call HOK.out tn (o + 1) l id tn ((o : Int) + 1) l id rfl (by omega) rfl rfl (by omega) (by rw [HK.out]; omega) (by omega) HI6.out hB hn (by omega))
              clear heq hfm
              go_wp2
              first | with_reducible refine wp_region_ext2 (by kernel_rfl) (by kernel_rfl) ?_ | refine wp_region_ext (by kernel_rfl) (by kernel_rfl) ?_
              repeat (go_big_quiet_step ((go_at_call 63; exact Calls.ext_of (FM1.out _ (by (repeat (first | with_reducible exact Below.rf _ | with_reducible exact World.below_ext _ _ | with_reducible refine Below.ex ?_ _ | with_reducible refine Below.al ?_ _ | with_reducible refine Below.setCell ?_ (by simp) _ | with_reducible refine Below.drew ?_)))))))
              refine wpQuiet_nil ?_
              rintro _ ⟨z, rfl⟩
              go_wp2_with (first | (go_at_call 86; refine (RE.out _ (by (repeat (first | with_reducible exact Below.rf _ | with_reducible exact World.below_ext _ _ | with_reducible refine Below.ex ?_ _ | with_reducible refine Below.al ?_ _ | with_reducible refine Below.setCell ?_ (by simp) _ | with_reducible refine Below.drew ?_)))).mono ?_; rintro e w7 ⟨rfl, l7, N7, n7, hK7⟩))
              go_roundw
              case rel => exact ⟨j + 1, l7, N7, _, n7, d + 1, by go_num, by omega, HE.out, HRI.out, by omega, hK7⟩
              case measure => simp [intOf]; omega
          · rw [List.drop_eq_nil_of_le (by rw [HNN.out]; omega), nearGo] at heq
            have HE := hid heq
            have dj : decide ((j : Int) < (nn : Int)) = false := by simp; omega
            clear heq
            go_wp2
            refine bodyPost_end (v := .tuple #[]) (by simp [results, Try.results90, go_sem]) rfl ?_
            rw [← HE.out]
            exact ⟨l6, N6, n6, rfl, HE6.out.a.p, HE6.out.p, by have := HE6.out.n; omega, HE6.out.g, HE6.out.k⟩
      | true =>
        rw [hfm] at FM1
        have HR2 : Hid (nearGo F T q bay hz c o l id (F.near c) (SS.reach F q.gl bay hz c (o + 1) l id) = res) := by
          have := HR1.out
          unfold PS.exp2 at this
          rw [hfm, if_pos rfl] at this
          exact this
        have HRI : Hid (id < (SS.reach F q.gl bay hz c (o + 1) l id).nd.length) := Nat.lt_of_lt_of_le HSI.out (KU.out.s.reach (bay := bay) c (o + 1) l id (by omega) (by rw [HK.out]; omega) ⟨by omega, by have := HSI.out; omega⟩).2
        have RE := hid (KU.out.call HOK.out c (o + 1) l id c ((o : Int) + 1) l id rfl (by omega) rfl rfl (by omega) (by rw [HK.out]; omega) (by omega) HSI.out hB hn (by omega))
        clear hfm
        first | with_reducible refine wp_region_ext2 (by kernel_rfl) (by kernel_rfl) ?_ | refine wp_region_ext (by kernel_rfl) (by kernel_rfl) ?_
        repeat (go_big_quiet_step ((go_at_call 63; exact Calls.ext_of (FM1.out _ (by (repeat (first | with_reducible exact Below.rf _ | with_reducible exact World.below_ext _ _ | with_reducible refine Below.ex ?_ _ | with_reducible refine Below.al ?_ _ | with_reducible refine Below.setCell ?_ (by simp) _ | with_reducible refine Below.drew ?_)))))))
        refine wpQuiet_nil ?_
        rintro _ ⟨z, rfl⟩
        go_wp2_with (first | (go_at_call 86; refine (RE.out _ (by (repeat (first | with_reducible exact Below.rf _ | with_reducible exact World.below_ext _ _ | with_reducible refine Below.ex ?_ _ | with_reducible refine Below.al ?_ _ | with_reducible refine Below.setCell ?_ (by simp) _ | with_reducible refine Below.drew ?_)))).mono ?_; rintro e wT ⟨rfl, lT, NT, nT, hKW⟩))
        have KW := hid hKW
        clear hKW KU FM1 RE r0 c0 c1 x0 x1 x2 hrl hxl hpl HR1 HSI
        obtain ⟨ST, hST⟩ : ∃ y, SS.reach F q.gl bay hz c (o + 1) l id = y := ⟨_, rfl⟩
        rw [hST] at KW HR2 HRI
        clear hST
        have r0 : (wT).cell? ⟨rb, 0, none⟩ = some (.pointer (some ⟨(NT).p, 0, none⟩)) := KW.out.a.r.b.is 0 (by omega)
        have c0 := KW.out.a.p.c0
        have c1 := KW.out.a.p.c1
        have x0 : (wT).cell? ⟨xb, 0, none⟩ = some (.int .i64 (c)) := KW.out.b.is 0 (by omega)
        have x1 : (wT).cell? ⟨xb, 1, none⟩ = some (.int .i64 (o)) := KW.out.b.is 1 (by omega)
        have x2 : (wT).cell? ⟨xb, 2, none⟩ = some (.int .i64 (l)) := KW.out.b.is 2 (by omega)
        have hrl := KW.out.a.r.b.lt
        have hxl := KW.out.b.lt
        have hpl := KW.out.a.p.bp.lt
        first | with_reducible refine wp_region_ext2 (by kernel_rfl) (by kernel_rfl) ?_ | refine wp_region_ext (by kernel_rfl) (by kernel_rfl) ?_
        repeat (go_big_quiet_step ((go_at_call 32; exact Calls.ext_of_same (NV.out _ (KW.out.below (by (repeat (first | with_reducible exact Below.rf _ | with_reducible exact World.below_ext _ _ | with_reducible refine Below.ex ?_ _ | with_reducible refine Below.al ?_ _ | with_reducible refine Below.setCell ?_ (by simp) _ | with_reducible refine Below.drew ?_)))).k))))
        refine wpQuiet_nil ?_
        rintro _ ⟨z, rfl⟩
        go_wp2
        go_loopw [113] (fun y wr => ∃ (j : Nat) (l6 : Nat → Nat) (N6 : PM) (S6 : PS) (n6 d : Nat), y = .int .i64 (j) ∧ j ≤ nn ∧ nearGo F T q bay hz c o l id ((F.near c).drop j) S6 = res ∧ id < S6.nd.length ∧ d ≤ 2 + j ∧ ExS lab w xb ⟨c, o, l, p⟩ M T rb fb F q gv tv av bay hz N.p n B wr l6 N6 S6 n6 d) (fun y _ => nn - (intOf y).toNat)
        case atStart => exact ⟨0, lT, NT, ST, nT, 2, rfl, Nat.zero_le _, HR2.out, HRI.out, by omega, KW.out.below (by (repeat (first | with_reducible exact Below.rf _ | with_reducible exact World.below_ext _ _ | with_reducible refine Below.ex ?_ _ | with_reducible refine Below.al ?_ _ | with_reducible refine Below.setCell ?_ (by simp) _ | with_reducible refine Below.drew ?_)))⟩
        case round =>
          obtain ⟨j, l6, N6, S6, n6, d, rfl, hj, heq, hi6, hd, hE⟩ := hrel
          have HE6 := hid hE
          have HI6 := hid hi6
          clear KW HR2 HRI r0 c0 c1 x0 x1 x2 hrl hxl hpl hE hi6
          by_cases hjn : j < nn
          · have hjl : j < (F.near c).length := by rw [HNN.out]; exact hjn
            have hx : (F.near c)[j]? = some (F.near c)[j] := List.getElem?_eq_getElem hjl
            have hdr : (F.near c).drop j = (F.near c)[j] :: (F.near c).drop (j + 1) := List.drop_eq_getElem_cons hjl
            have htb := HE6.out.a.f.ok.near c _ (List.getElem_mem hjl)
            rw [hdr, nearGo] at heq
            generalize (F.near c)[j] = to at *
            obtain ⟨b, a, n', cap', hv, hbl, -, cq⟩ := (HVI.out.keptL HE6.out.k (fun x hx => by unfold scrL at hx; omega)).row j to hx
            simp only [Value.slice.injEq] at hv
            obtain ⟨rfl, -, -⟩ := hv
            obtain ⟨tn, rfl⟩ : ∃ tn : Nat, to = tn := ⟨to.toNat, by omega⟩
            rw [Int.toNat_natCast] at heq
            have r0 : (wr).cell? ⟨rb, 0, none⟩ = some (.pointer (some ⟨(N6).p, 0, none⟩)) := HE6.out.a.r.b.is 0 (by omega)
            have c0 := HE6.out.a.p.c0
            have c1 := HE6.out.a.p.c1
            have x0 : (wr).cell? ⟨xb, 0, none⟩ = some (.int .i64 (c)) := HE6.out.b.is 0 (by omega)
            have x1 : (wr).cell? ⟨xb, 1, none⟩ = some (.int .i64 (o)) := HE6.out.b.is 1 (by omega)
            have x2 : (wr).cell? ⟨xb, 2, none⟩ = some (.int .i64 (l)) := HE6.out.b.is 2 (by omega)
            have hrl := HE6.out.a.r.b.lt
            have hxl := HE6.out.b.lt
            have hpl := HE6.out.a.p.bp.lt
            have dj : decide ((j : Int) < (nn : Int)) = true := by simp; omega
            have FM1 := hid (fun (w' : World) (h : Below wr.heap.size wr w') => freeM_any M T l6 q.r c tn (q.t + o) w' (HE6.out.a.t.below h) ⟨by have := HOK.out.r; have := HE6.out.a.f.ok.nb; omega, by have := HOK.out.r; have := HE6.out.a.f.ok.nb; omega⟩ ⟨by omega, by omega⟩ ⟨by omega, by omega⟩ ⟨by omega, by omega⟩)
            clear hx hdr
            cases hfm : T.freeM q.r c tn (q.t + o) with
            | false =>
              rw [hfm] at FM1 heq
              rw [if_neg (by simp)] at heq
              have HE := hid heq
              clear heq hfm
              go_wp2
              first | with_reducible refine wp_region_ext2 (by kernel_rfl) (by kernel_rfl) ?_ | refine wp_region_ext (by kernel_rfl) (by kernel_rfl) ?_
              repeat (go_big_quiet_step ((go_at_call 63; exact Calls.ext_of (FM1.out _ (by (repeat (first | with_reducible exact Below.rf _ | with_reducible exact World.below_ext _ _ | with_reducible refine Below.ex ?_ _ | with_reducible refine Below.al ?_ _ | with_reducible refine Below.setCell ?_ (by simp) _ | with_reducible refine Below.drew ?_)))))))
              refine wpQuiet_nil ?_
              rintro _ ⟨z, rfl⟩
              go_wp2
              go_roundw
              case rel => exact ⟨j + 1, l6, N6, S6, n6, d, by go_num, by omega, HE.out, HI6.out, by omega, HE6.out.below (by (repeat (first | with_reducible exact Below.rf _ | with_reducible exact World.below_ext _ _ | with_reducible refine Below.ex ?_ _ | with_reducible refine Below.al ?_ _ | with_reducible refine Below.setCell ?_ (by simp) _ | with_reducible refine Below.drew ?_)))⟩
              case measure => simp [intOf]; omega
            | true =>
              rw [hfm] at FM1 heq
              rw [if_pos rfl] at heq
              have HE := hid heq
              have HRI : Hid (id < (S6.reach F q.gl bay hz tn (o + 1) l id).nd.length) := Nat.lt_of_lt_of_le HI6.out (HE6.out.s.reach (bay := bay) tn (o + 1) l id (by omega) (by rw [HK.out]; omega) ⟨by omega, by have := HI6.out; omega⟩).2
              have RE := hid (HE6.out.call HOK.out tn (o + 1) l id tn ((o : Int) + 1) l id rfl (by omega) rfl rfl (by omega) (by rw [HK.out]; omega) (by omega) HI6.out hB hn (by omega))
              clear heq hfm
              go_wp2
              first | with_reducible refine wp_region_ext2 (by kernel_rfl) (by kernel_rfl) ?_ | refine wp_region_ext (by kernel_rfl) (by kernel_rfl) ?_
              repeat (go_big_quiet_step ((go_at_call 63; exact Calls.ext_of (FM1.out _ (by (repeat (first | with_reducible exact Below.rf _ | with_reducible exact World.below_ext _ _ | with_reducible refine Below.ex ?_ _ | with_reducible refine Below.al ?_ _ | with_reducible refine Below.setCell ?_ (by simp) _ | with_reducible refine Below.drew ?_)))))))
              refine wpQuiet_nil ?_
              rintro _ ⟨z, rfl⟩
              go_wp2_with (first | (go_at_call 86; refine (RE.out _ (by (repeat (first | with_reducible exact Below.rf _ | with_reducible exact World.below_ext _ _ | with_reducible refine Below.ex ?_ _ | with_reducible refine Below.al ?_ _ | with_reducible refine Below.setCell ?_ (by simp) _ | with_reducible refine Below.drew ?_)))).mono ?_; rintro e w7 ⟨rfl, l7, N7, n7, hK7⟩))
              go_roundw
              case rel => exact ⟨j + 1, l7, N7, _, n7, d + 1, by go_num, by omega, HE.out, HRI.out, by omega, hK7⟩
              case measure => simp [intOf]; omega
          · rw [List.drop_eq_nil_of_le (by rw [HNN.out]; omega), nearGo] at heq
            have HE := hid heq
            have dj : decide ((j : Int) < (nn : Int)) = false := by simp; omega
            clear heq
            go_wp2
            refine bodyPost_end (v := .tuple #[]) (by simp [results, Try.results90, go_sem]) rfl ?_
            rw [← HE.out]
            exact ⟨l6, N6, n6, rfl, HE6.out.a.p, HE6.out.p, by have := HE6.out.n; omega, HE6.out.g, HE6.out.k⟩
  · have dl : decide ((l : Int) < (k : Int)) = false := by simp; omega
    have HR1 : Hid (nearGo F T q bay hz c o l id (F.near c) (S.exp2 F T q bay hz c o l id) = res) := by
      have := HRES.out
      unfold PS.expand PS.exp1 at this
      simp only at this
      rw [List.getElem?_eq_none (by rw [HK.out]; omega)] at this
      exact this
    first | with_reducible refine wp_region_ext2 (by kernel_rfl) (by kernel_rfl) ?_ | refine wp_region_ext (by kernel_rfl) (by kernel_rfl) ?_
    repeat (go_big_quiet_step (fail))
    refine wpQuiet_nil ?_
    rintro _ ⟨z, rfl⟩
    go_wp2
    first | with_reducible refine wp_region_ext2 (by kernel_rfl) (by kernel_rfl) ?_ | refine wp_region_ext (by kernel_rfl) (by kernel_rfl) ?_
    repeat (go_big_quiet_step (fail))
    refine wpQuiet_nil ?_
    rintro _ ⟨z, rfl⟩
    go_wp2
    refine wp_name fun wS hwS => ?_
    have KT := hid (KS.out.below (w' := wS) (by rw [hwS]; (repeat (first | with_reducible exact Below.rf _ | with_reducible exact World.below_ext _ _ | with_reducible refine Below.ex ?_ _ | with_reducible refine Below.al ?_ _ | with_reducible refine Below.setCell ?_ (by simp) _ | with_reducible refine Below.drew ?_)))).more
    clear hwS KS r1 r3 r4 x1 x2 hrl hxl
    obtain ⟨lS, hlS⟩ : ∃ y, lA = y := ⟨_, rfl⟩
    obtain ⟨NS, hNS⟩ : ∃ y, N = y := ⟨_, rfl⟩
    obtain ⟨SS, hSS⟩ : ∃ y, S = y := ⟨_, rfl⟩
    obtain ⟨nS, hnS⟩ : ∃ y, n = y := ⟨_, rfl⟩
    rw [hlS] at KT
    rw [hSS] at HR1
    have KU : Hid (ExS lab w xb ⟨c, o, l, p⟩ M T rb fb F q gv tv av bay hz N.p n B wS lS NS SS nS 1) := by
      subst hNS hSS hnS
      exact KT.out
    have HSI : Hid (id < SS.nd.length) := by rw [← hSS, hnd]; exact hil
    clear KT hlS hNS hSS hnS
    have r0 : (wS).cell? ⟨rb, 0, none⟩ = some (.pointer (some ⟨(NS).p, 0, none⟩)) := KU.out.a.r.b.is 0 (by omega)
    have c0 := KU.out.a.p.c0
    have c1 := KU.out.a.p.c1
    have x0 : (wS).cell? ⟨xb, 0, none⟩ = some (.int .i64 (c)) := KU.out.b.is 0 (by omega)
    have x1 : (wS).cell? ⟨xb, 1, none⟩ = some (.int .i64 (o)) := KU.out.b.is 1 (by omega)
    have x2 : (wS).cell? ⟨xb, 2, none⟩ = some (.int .i64 (l)) := KU.out.b.is 2 (by omega)
    have hrl := KU.out.a.r.b.lt
    have hxl := KU.out.b.lt
    have hpl := KU.out.a.p.bp.lt
    have FM1 := hid (fun (w' : World) (h : Below wS.heap.size wS w') => freeM_any M T lS q.r c c (q.t + o) w' (KU.out.a.t.below h) ⟨by have := HOK.out.r; have := KU.out.a.f.ok.nb; omega, by have := HOK.out.r; have := KU.out.a.f.ok.nb; omega⟩ ⟨by omega, by omega⟩ ⟨by omega, by omega⟩ ⟨by omega, by omega⟩)
    cases hfm : T.freeM q.r c c (q.t + o) with
    | false =>
      rw [hfm] at FM1
      have HR2 : Hid (nearGo F T q bay hz c o l id (F.near c) SS = res) := by
        have := HR1.out
        unfold PS.exp2 at this
        rw [hfm, if_neg (by simp)] at this
        exact this
      clear hfm
      first | with_reducible refine wp_region_ext2 (by kernel_rfl) (by kernel_rfl) ?_ | refine wp_region_ext (by kernel_rfl) (by kernel_rfl) ?_
      repeat (go_big_quiet_step ((go_at_call 63; exact Calls.ext_of (FM1.out _ (by (repeat (first | with_reducible exact Below.rf _ | with_reducible exact World.below_ext _ _ | with_reducible refine Below.ex ?_ _ | with_reducible refine Below.al ?_ _ | with_reducible refine Below.setCell ?_ (by simp) _ | with_reducible refine Below.drew ?_)))))))
      refine wpQuiet_nil ?_
      rintro _ ⟨z, rfl⟩
      go_wp2
      refine wp_name fun wT hwT => ?_
      have KW := hid (KU.out.below (w' := wT) (by rw [hwT]; (repeat (first | with_reducible exact Below.rf _ | with_reducible exact World.below_ext _ _ | with_reducible refine Below.ex ?_ _ | with_reducible refine Below.al ?_ _ | with_reducible refine Below.setCell ?_ (by simp) _ | with_reducible refine Below.drew ?_)))).more
      clear hwT KU FM1 r0 c0 c1 x0 x1 x2 hrl hxl hpl HR1
      obtain ⟨lT, hlT⟩ : ∃ y, lS = y := ⟨_, rfl⟩
      obtain ⟨NT, hNT⟩ : ∃ y, NS = y := ⟨_, rfl⟩
      obtain ⟨ST, hST⟩ : ∃ y, SS = y := ⟨_, rfl⟩
      obtain ⟨nT, hnT⟩ : ∃ y, nS = y := ⟨_, rfl⟩
      rw [hlT, hNT, hST, hnT] at KW
      rw [hST] at HR2
      have HRI : Hid (id < ST.nd.length) := by rw [← hST]; exact HSI.out
      clear hlT hNT hST hnT HSI
      have r0 : (wT).cell? ⟨rb, 0, none⟩ = some (.pointer (some ⟨(NT).p, 0, none⟩)) := KW.out.a.r.b.is 0 (by omega)
      have c0 := KW.out.a.p.c0
      have c1 := KW.out.a.p.c1
      have x0 : (wT).cell? ⟨xb, 0, none⟩ = some (.int .i64 (c)) := KW.out.b.is 0 (by omega)
      have x1 : (wT).cell? ⟨xb, 1, none⟩ = some (.int .i64 (o)) := KW.out.b.is 1 (by omega)
      have x2 : (wT).cell? ⟨xb, 2, none⟩ = some (.int .i64 (l)) := KW.out.b.is 2 (by omega)
      have hrl := KW.out.a.r.b.lt
      have hxl := KW.out.b.lt
      have hpl := KW.out.a.p.bp.lt
      first | with_reducible refine wp_region_ext2 (by kernel_rfl) (by kernel_rfl) ?_ | refine wp_region_ext (by kernel_rfl) (by kernel_rfl) ?_
      repeat (go_big_quiet_step ((go_at_call 32; exact Calls.ext_of_same (NV.out _ (KW.out.below (by (repeat (first | with_reducible exact Below.rf _ | with_reducible exact World.below_ext _ _ | with_reducible refine Below.ex ?_ _ | with_reducible refine Below.al ?_ _ | with_reducible refine Below.setCell ?_ (by simp) _ | with_reducible refine Below.drew ?_)))).k))))
      refine wpQuiet_nil ?_
      rintro _ ⟨z, rfl⟩
      go_wp2
      go_loopw [113] (fun y wr => ∃ (j : Nat) (l6 : Nat → Nat) (N6 : PM) (S6 : PS) (n6 d : Nat), y = .int .i64 (j) ∧ j ≤ nn ∧ nearGo F T q bay hz c o l id ((F.near c).drop j) S6 = res ∧ id < S6.nd.length ∧ d ≤ 2 + j ∧ ExS lab w xb ⟨c, o, l, p⟩ M T rb fb F q gv tv av bay hz N.p n B wr l6 N6 S6 n6 d) (fun y _ => nn - (intOf y).toNat)
      case atStart => exact ⟨0, lT, NT, ST, nT, 2, rfl, Nat.zero_le _, HR2.out, HRI.out, by omega, KW.out.below (by (repeat (first | with_reducible exact Below.rf _ | with_reducible exact World.below_ext _ _ | with_reducible refine Below.ex ?_ _ | with_reducible refine Below.al ?_ _ | with_reducible refine Below.setCell ?_ (by simp) _ | with_reducible refine Below.drew ?_)))⟩
      case round =>
        obtain ⟨j, l6, N6, S6, n6, d, rfl, hj, heq, hi6, hd, hE⟩ := hrel
        have HE6 := hid hE
        have HI6 := hid hi6
        clear KW HR2 HRI r0 c0 c1 x0 x1 x2 hrl hxl hpl hE hi6
        by_cases hjn : j < nn
        · have hjl : j < (F.near c).length := by rw [HNN.out]; exact hjn
          have hx : (F.near c)[j]? = some (F.near c)[j] := List.getElem?_eq_getElem hjl
          have hdr : (F.near c).drop j = (F.near c)[j] :: (F.near c).drop (j + 1) := List.drop_eq_getElem_cons hjl
          have htb := HE6.out.a.f.ok.near c _ (List.getElem_mem hjl)
          rw [hdr, nearGo] at heq
          generalize (F.near c)[j] = to at *
          obtain ⟨b, a, n', cap', hv, hbl, -, cq⟩ := (HVI.out.keptL HE6.out.k (fun x hx => by unfold scrL at hx; omega)).row j to hx
          simp only [Value.slice.injEq] at hv
          obtain ⟨rfl, -, -⟩ := hv
          obtain ⟨tn, rfl⟩ : ∃ tn : Nat, to = tn := ⟨to.toNat, by omega⟩
          rw [Int.toNat_natCast] at heq
          have r0 : (wr).cell? ⟨rb, 0, none⟩ = some (.pointer (some ⟨(N6).p, 0, none⟩)) := HE6.out.a.r.b.is 0 (by omega)
          have c0 := HE6.out.a.p.c0
          have c1 := HE6.out.a.p.c1
          have x0 : (wr).cell? ⟨xb, 0, none⟩ = some (.int .i64 (c)) := HE6.out.b.is 0 (by omega)
          have x1 : (wr).cell? ⟨xb, 1, none⟩ = some (.int .i64 (o)) := HE6.out.b.is 1 (by omega)
          have x2 : (wr).cell? ⟨xb, 2, none⟩ = some (.int .i64 (l)) := HE6.out.b.is 2 (by omega)
          have hrl := HE6.out.a.r.b.lt
          have hxl := HE6.out.b.lt
          have hpl := HE6.out.a.p.bp.lt
          have dj : decide ((j : Int) < (nn : Int)) = true := by simp; omega
          have FM1 := hid (fun (w' : World) (h : Below wr.heap.size wr w') => freeM_any M T l6 q.r c tn (q.t + o) w' (HE6.out.a.t.below h) ⟨by have := HOK.out.r; have := HE6.out.a.f.ok.nb; omega, by have := HOK.out.r; have := HE6.out.a.f.ok.nb; omega⟩ ⟨by omega, by omega⟩ ⟨by omega, by omega⟩ ⟨by omega, by omega⟩)
          clear hx hdr
          cases hfm : T.freeM q.r c tn (q.t + o) with
          | false =>
            rw [hfm] at FM1 heq
            rw [if_neg (by simp)] at heq
            have HE := hid heq
            clear heq hfm
            go_wp2
            first | with_reducible refine wp_region_ext2 (by kernel_rfl) (by kernel_rfl) ?_ | refine wp_region_ext (by kernel_rfl) (by kernel_rfl) ?_
            repeat (go_big_quiet_step ((go_at_call 63; exact Calls.ext_of (FM1.out _ (by (repeat (first | with_reducible exact Below.rf _ | with_reducible exact World.below_ext _ _ | with_reducible refine Below.ex ?_ _ | with_reducible refine Below.al ?_ _ | with_reducible refine Below.setCell ?_ (by simp) _ | with_reducible refine Below.drew ?_)))))))
            refine wpQuiet_nil ?_
            rintro _ ⟨z, rfl⟩
            go_wp2
            go_roundw
            case rel => exact ⟨j + 1, l6, N6, S6, n6, d, by go_num, by omega, HE.out, HI6.out, by omega, HE6.out.below (by (repeat (first | with_reducible exact Below.rf _ | with_reducible exact World.below_ext _ _ | with_reducible refine Below.ex ?_ _ | with_reducible refine Below.al ?_ _ | with_reducible refine Below.setCell ?_ (by simp) _ | with_reducible refine Below.drew ?_)))⟩
            case measure => simp [intOf]; omega
          | true =>
            rw [hfm] at FM1 heq
            rw [if_pos rfl] at heq
            have HE := hid heq
            have HRI : Hid (id < (S6.reach F q.gl bay hz tn (o + 1) l id).nd.length) := Nat.lt_of_lt_of_le HI6.out (HE6.out.s.reach (bay := bay) tn (o + 1) l id (by omega) (by rw [HK.out]; omega) ⟨by omega, by have := HI6.out; omega⟩).2
            have RE := hid (HE6.out.call HOK.out tn (o + 1) l id tn ((o : Int) + 1) l id rfl (by omega) rfl rfl (by omega) (by rw [HK.out]; omega) (by omega) HI6.out hB hn (by omega))
            clear heq hfm
            go_wp2
            first | with_reducible refine wp_region_ext2 (by kernel_rfl) (by kernel_rfl) ?_ | refine wp_region_ext (by kernel_rfl) (by kernel_rfl) ?_
            repeat (go_big_quiet_step ((go_at_call 63; exact Calls.ext_of (FM1.out _ (by (repeat (first | with_reducible exact Below.rf _ | with_reducible exact World.below_ext _ _ | with_reducible refine Below.ex ?_ _ | with_reducible refine Below.al ?_ _ | with_reducible refine Below.setCell ?_ (by simp) _ | with_reducible refine Below.drew ?_)))))))
            refine wpQuiet_nil ?_
            rintro _ ⟨z, rfl⟩
            go_wp2_with (first | (go_at_call 86; refine (RE.out _ (by (repeat (first | with_reducible exact Below.rf _ | with_reducible exact World.below_ext _ _ | with_reducible refine Below.ex ?_ _ | with_reducible refine Below.al ?_ _ | with_reducible refine Below.setCell ?_ (by simp) _ | with_reducible refine Below.drew ?_)))).mono ?_; rintro e w7 ⟨rfl, l7, N7, n7, hK7⟩))
            go_roundw
            case rel => exact ⟨j + 1, l7, N7, _, n7, d + 1, by go_num, by omega, HE.out, HRI.out, by omega, hK7⟩
            case measure => simp [intOf]; omega
        · rw [List.drop_eq_nil_of_le (by rw [HNN.out]; omega), nearGo] at heq
          have HE := hid heq
          have dj : decide ((j : Int) < (nn : Int)) = false := by simp; omega
          clear heq
          go_wp2
          refine bodyPost_end (v := .tuple #[]) (by simp [results, Try.results90, go_sem]) rfl ?_
          rw [← HE.out]
          exact ⟨l6, N6, n6, rfl, HE6.out.a.p, HE6.out.p, by have := HE6.out.n; omega, HE6.out.g, HE6.out.k⟩
    | true =>
      rw [hfm] at FM1
      have HR2 : Hid (nearGo F T q bay hz c o l id (F.near c) (SS.reach F q.gl bay hz c (o + 1) l id) = res) := by
        have := HR1.out
        unfold PS.exp2 at this
        rw [hfm, if_pos rfl] at this
        exact this
      have HRI : Hid (id < (SS.reach F q.gl bay hz c (o + 1) l id).nd.length) := Nat.lt_of_lt_of_le HSI.out (KU.out.s.reach (bay := bay) c (o + 1) l id (by omega) (by rw [HK.out]; omega) ⟨by omega, by have := HSI.out; omega⟩).2
      have RE := hid (KU.out.call HOK.out c (o + 1) l id c ((o : Int) + 1) l id rfl (by omega) rfl rfl (by omega) (by rw [HK.out]; omega) (by omega) HSI.out hB hn (by omega))
      clear hfm
      first | with_reducible refine wp_region_ext2 (by kernel_rfl) (by kernel_rfl) ?_ | refine wp_region_ext (by kernel_rfl) (by kernel_rfl) ?_
      repeat (go_big_quiet_step ((go_at_call 63; exact Calls.ext_of (FM1.out _ (by (repeat (first | with_reducible exact Below.rf _ | with_reducible exact World.below_ext _ _ | with_reducible refine Below.ex ?_ _ | with_reducible refine Below.al ?_ _ | with_reducible refine Below.setCell ?_ (by simp) _ | with_reducible refine Below.drew ?_)))))))
      refine wpQuiet_nil ?_
      rintro _ ⟨z, rfl⟩
      go_wp2_with (first | (go_at_call 86; refine (RE.out _ (by (repeat (first | with_reducible exact Below.rf _ | with_reducible exact World.below_ext _ _ | with_reducible refine Below.ex ?_ _ | with_reducible refine Below.al ?_ _ | with_reducible refine Below.setCell ?_ (by simp) _ | with_reducible refine Below.drew ?_)))).mono ?_; rintro e wT ⟨rfl, lT, NT, nT, hKW⟩))
      have KW := hid hKW
      clear hKW KU FM1 RE r0 c0 c1 x0 x1 x2 hrl hxl hpl HR1 HSI
      obtain ⟨ST, hST⟩ : ∃ y, SS.reach F q.gl bay hz c (o + 1) l id = y := ⟨_, rfl⟩
      rw [hST] at KW HR2 HRI
      clear hST
      have r0 : (wT).cell? ⟨rb, 0, none⟩ = some (.pointer (some ⟨(NT).p, 0, none⟩)) := KW.out.a.r.b.is 0 (by omega)
      have c0 := KW.out.a.p.c0
      have c1 := KW.out.a.p.c1
      have x0 : (wT).cell? ⟨xb, 0, none⟩ = some (.int .i64 (c)) := KW.out.b.is 0 (by omega)
      have x1 : (wT).cell? ⟨xb, 1, none⟩ = some (.int .i64 (o)) := KW.out.b.is 1 (by omega)
      have x2 : (wT).cell? ⟨xb, 2, none⟩ = some (.int .i64 (l)) := KW.out.b.is 2 (by omega)
      have hrl := KW.out.a.r.b.lt
      have hxl := KW.out.b.lt
      have hpl := KW.out.a.p.bp.lt
      first | with_reducible refine wp_region_ext2 (by kernel_rfl) (by kernel_rfl) ?_ | refine wp_region_ext (by kernel_rfl) (by kernel_rfl) ?_
      repeat (go_big_quiet_step ((go_at_call 32; exact Calls.ext_of_same (NV.out _ (KW.out.below (by (repeat (first | with_reducible exact Below.rf _ | with_reducible exact World.below_ext _ _ | with_reducible refine Below.ex ?_ _ | with_reducible refine Below.al ?_ _ | with_reducible refine Below.setCell ?_ (by simp) _ | with_reducible refine Below.drew ?_)))).k))))
      refine wpQuiet_nil ?_
      rintro _ ⟨z, rfl⟩
      go_wp2
      go_loopw [113] (fun y wr => ∃ (j : Nat) (l6 : Nat → Nat) (N6 : PM) (S6 : PS) (n6 d : Nat), y = .int .i64 (j) ∧ j ≤ nn ∧ nearGo F T q bay hz c o l id ((F.near c).drop j) S6 = res ∧ id < S6.nd.length ∧ d ≤ 2 + j ∧ ExS lab w xb ⟨c, o, l, p⟩ M T rb fb F q gv tv av bay hz N.p n B wr l6 N6 S6 n6 d) (fun y _ => nn - (intOf y).toNat)
      case atStart => exact ⟨0, lT, NT, ST, nT, 2, rfl, Nat.zero_le _, HR2.out, HRI.out, by omega, KW.out.below (by (repeat (first | with_reducible exact Below.rf _ | with_reducible exact World.below_ext _ _ | with_reducible refine Below.ex ?_ _ | with_reducible refine Below.al ?_ _ | with_reducible refine Below.setCell ?_ (by simp) _ | with_reducible refine Below.drew ?_)))⟩
      case round =>
        obtain ⟨j, l6, N6, S6, n6, d, rfl, hj, heq, hi6, hd, hE⟩ := hrel
        have HE6 := hid hE
        have HI6 := hid hi6
        clear KW HR2 HRI r0 c0 c1 x0 x1 x2 hrl hxl hpl hE hi6
        by_cases hjn : j < nn
        · have hjl : j < (F.near c).length := by rw [HNN.out]; exact hjn
          have hx : (F.near c)[j]? = some (F.near c)[j] := List.getElem?_eq_getElem hjl
          have hdr : (F.near c).drop j = (F.near c)[j] :: (F.near c).drop (j + 1) := List.drop_eq_getElem_cons hjl
          have htb := HE6.out.a.f.ok.near c _ (List.getElem_mem hjl)
          rw [hdr, nearGo] at heq
          generalize (F.near c)[j] = to at *
          obtain ⟨b, a, n', cap', hv, hbl, -, cq⟩ := (HVI.out.keptL HE6.out.k (fun x hx => by unfold scrL at hx; omega)).row j to hx
          simp only [Value.slice.injEq] at hv
          obtain ⟨rfl, -, -⟩ := hv
          obtain ⟨tn, rfl⟩ : ∃ tn : Nat, to = tn := ⟨to.toNat, by omega⟩
          rw [Int.toNat_natCast] at heq
          have r0 : (wr).cell? ⟨rb, 0, none⟩ = some (.pointer (some ⟨(N6).p, 0, none⟩)) := HE6.out.a.r.b.is 0 (by omega)
          have c0 := HE6.out.a.p.c0
          have c1 := HE6.out.a.p.c1
          have x0 : (wr).cell? ⟨xb, 0, none⟩ = some (.int .i64 (c)) := HE6.out.b.is 0 (by omega)
          have x1 : (wr).cell? ⟨xb, 1, none⟩ = some (.int .i64 (o)) := HE6.out.b.is 1 (by omega)
          have x2 : (wr).cell? ⟨xb, 2, none⟩ = some (.int .i64 (l)) := HE6.out.b.is 2 (by omega)
          have hrl := HE6.out.a.r.b.lt
          have hxl := HE6.out.b.lt
          have hpl := HE6.out.a.p.bp.lt
          have dj : decide ((j : Int) < (nn : Int)) = true := by simp; omega
          have FM1 := hid (fun (w' : World) (h : Below wr.heap.size wr w') => freeM_any M T l6 q.r c tn (q.t + o) w' (HE6.out.a.t.below h) ⟨by have := HOK.out.r; have := HE6.out.a.f.ok.nb; omega, by have := HOK.out.r; have := HE6.out.a.f.ok.nb; omega⟩ ⟨by omega, by omega⟩ ⟨by omega, by omega⟩ ⟨by omega, by omega⟩)
          clear hx hdr
          cases hfm : T.freeM q.r c tn (q.t + o) with
          | false =>
            rw [hfm] at FM1 heq
            rw [if_neg (by simp)] at heq
            have HE := hid heq
            clear heq hfm
            go_wp2
            first | with_reducible refine wp_region_ext2 (by kernel_rfl) (by kernel_rfl) ?_ | refine wp_region_ext (by kernel_rfl) (by kernel_rfl) ?_
            repeat (go_big_quiet_step ((go_at_call 63; exact Calls.ext_of (FM1.out _ (by (repeat (first | with_reducible exact Below.rf _ | with_reducible exact World.below_ext _ _ | with_reducible refine Below.ex ?_ _ | with_reducible refine Below.al ?_ _ | with_reducible refine Below.setCell ?_ (by simp) _ | with_reducible refine Below.drew ?_)))))))
            refine wpQuiet_nil ?_
            rintro _ ⟨z, rfl⟩
            go_wp2
            go_roundw
            case rel => exact ⟨j + 1, l6, N6, S6, n6, d, by go_num, by omega, HE.out, HI6.out, by omega, HE6.out.below (by (repeat (first | with_reducible exact Below.rf _ | with_reducible exact World.below_ext _ _ | with_reducible refine Below.ex ?_ _ | with_reducible refine Below.al ?_ _ | with_reducible refine Below.setCell ?_ (by simp) _ | with_reducible refine Below.drew ?_)))⟩
            case measure => simp [intOf]; omega
          | true =>
            rw [hfm] at FM1 heq
            rw [if_pos rfl] at heq
            have HE := hid heq
            have HRI : Hid (id < (S6.reach F q.gl bay hz tn (o + 1) l id).nd.length) := Nat.lt_of_lt_of_le HI6.out (HE6.out.s.reach (bay := bay) tn (o + 1) l id (by omega) (by rw [HK.out]; omega) ⟨by omega, by have := HI6.out; omega⟩).2
            have RE := hid (HE6.out.call HOK.out tn (o + 1) l id tn ((o : Int) + 1) l id rfl (by omega) rfl rfl (by omega) (by rw [HK.out]; omega) (by omega) HI6.out hB hn (by omega))
            clear heq hfm
            go_wp2
            first | with_reducible refine wp_region_ext2 (by kernel_rfl) (by kernel_rfl) ?_ | refine wp_region_ext (by kernel_rfl) (by kernel_rfl) ?_
            repeat (go_big_quiet_step ((go_at_call 63; exact Calls.ext_of (FM1.out _ (by (repeat (first | with_reducible exact Below.rf _ | with_reducible exact World.below_ext _ _ | with_reducible refine Below.ex ?_ _ | with_reducible refine Below.al ?_ _ | with_reducible refine Below.setCell ?_ (by simp) _ | with_reducible refine Below.drew ?_)))))))
            refine wpQuiet_nil ?_
            rintro _ ⟨z, rfl⟩
            go_wp2_with (first | (go_at_call 86; refine (RE.out _ (by (repeat (first | with_reducible exact Below.rf _ | with_reducible exact World.below_ext _ _ | with_reducible refine Below.ex ?_ _ | with_reducible refine Below.al ?_ _ | with_reducible refine Below.setCell ?_ (by simp) _ | with_reducible refine Below.drew ?_)))).mono ?_; rintro e w7 ⟨rfl, l7, N7, n7, hK7⟩))
            go_roundw
            case rel => exact ⟨j + 1, l7, N7, _, n7, d + 1, by go_num, by omega, HE.out, HRI.out, by omega, hK7⟩
            case measure => simp [intOf]; omega
        · rw [List.drop_eq_nil_of_le (by rw [HNN.out]; omega), nearGo] at heq
          have HE := hid heq
          have dj : decide ((j : Int) < (nn : Int)) = false := by simp; omega
          clear heq
          go_wp2
          refine bodyPost_end (v := .tuple #[]) (by simp [results, Try.results90, go_sem]) rfl ?_
          rw [← HE.out]
          exact ⟨l6, N6, n6, rfl, HE6.out.a.p, HE6.out.p, by have := HE6.out.n; omega, HE6.out.g, HE6.out.k⟩
end Go.Proofs.Qxb6500716a
