/-
  The open list: Pop.
-/
import Derived.Test.Qxb6500716aPq
namespace Go.Proofs.Qxb6500716a
open Go.RowKit Go.Maps
set_option linter.unusedSimpArgs false
set_option linter.unusedVariables false
set_option maxRecDepth 20000
set_option maxHeartbeats 4000000

def It.lt (a b : It) : Bool := decide (a.k < b.k) || (decide (a.k = b.k) && decide (a.t < b.t))
def It.nil : It := ⟨0, 0, 0⟩
def bestGo (l : List It) : List It → Nat → Nat → Nat
  | [], _, b => b
  | x :: r, i, b => bestGo l r (i + 1) (if x.lt (l.getD b It.nil) = true then i else b)
/-- The item that Pop takes. -/
def best (l : List It) : Nat := bestGo l l 0 0
theorem bestGo_lt (l : List It) : ∀ (r : List It) (i b : Nat), i + r.length = l.length → b < l.length → bestGo l r i b < l.length
  | [], i, b, _, h => h
  | x :: r, i, b, hi, h => by
    simp only [bestGo]
    simp at hi
    refine bestGo_lt l r (i + 1) _ (by omega) ?_
    split <;> omega
theorem best_lt {l : List It} (h : 0 < l.length) : best l < l.length := bestGo_lt l l 0 0 (by omega) h
theorem hrow_take (l : List It) : ∀ i, (hrow l).take (i * 3) = hrow (l.take i) := by
  induction l with
  | nil => intro i; simp [hrow]
  | cons x l ih =>
    intro i
    cases i with
    | zero => simp [hrow]
    | succ i =>
      rw [show (i + 1) * 3 = i * 3 + 3 by omega, List.take_succ_cons]
      have : hrow (x :: l) = .int .i64 (x.k) :: .int .i64 (x.t) :: .int .i64 (x.v) :: hrow l := rfl
      rw [this]
      simp only [List.take_succ_cons]
      rw [ih i]
      rfl
theorem hrow_drop (l : List It) : ∀ i, (hrow l).drop (i * 3) = hrow (l.drop i) := by
  induction l with
  | nil => intro i; simp [hrow]
  | cons x l ih =>
    intro i
    cases i with
    | zero => simp
    | succ i =>
      rw [show (i + 1) * 3 = i * 3 + 3 by omega, List.drop_succ_cons]
      have : hrow (x :: l) = .int .i64 (x.k) :: .int .i64 (x.t) :: .int .i64 (x.v) :: hrow l := rfl
      rw [this]
      simp only [List.drop_succ_cons]
      exact ih i
theorem hrow_one (l : List It) (u : Value) (h : u ∈ hrow l) : u.oneCell' = true := by
  simp only [hrow, List.mem_flatMap] at h
  obtain ⟨y, -, hy⟩ := h
  simp at hy
  rcases hy with rfl | rfl | rfl <;> rfl
theorem slice_h3 (b n len cap : Nat) (h : n ≤ cap) (h0 : 0 < cap) (w : World) : (Instr.sliceAt 100 (.slice (some ⟨b, 0, none⟩) len cap) none (some (.int .i64 (n))) none).run Try.prog w = .ok (.slice (some ⟨b, 0, none⟩) n cap) w := by
  have he : (Try.prog).elem 100 = 138 := by simp [Program.elem, Try.underlying100]
  have ht' : (Try.prog).underlying 100 = some (.slice ((Try.prog).elem 100)) := by rw [he]; exact Try.underlying100
  rw [run_sliceAt_slice _ _ _ _ _ _ ht', run_slice_h _ _ _ _ _ ht' _ _ (by omega) (by omega)]
  have hsz : (sizeOf ((Try.prog).elem 100)).run Try.prog w = .ok 3 w := by rw [he]; kernel_rfl
  rw [hsz]
  simp only [Result.andThen, sliced, Int.toNat_natCast]
  rw [if_neg (by omega)]
  simp [Addr.add_lit]
theorem slice_l3 (b n len cap : Nat) (x : Int) (hx : x = n) (h : n ≤ len) : ∃ a2 : Addr, (n < cap → a2 = ⟨b, n * 3, none⟩) ∧ ∀ w : World, (Instr.sliceAt 100 (.slice (some ⟨b, 0, none⟩) len cap) (some (.int .i64 (x))) none none).run Try.prog w = .ok (.slice (some a2) (len - n) (cap - n)) w := by
  have he : (Try.prog).elem 100 = 138 := by simp [Program.elem, Try.underlying100]
  have ht' : (Try.prog).underlying 100 = some (.slice ((Try.prog).elem 100)) := by rw [he]; exact Try.underlying100
  subst hx
  refine ⟨if cap = n then ⟨b, 0, none⟩ else ⟨b, n * 3, none⟩, fun hn => by rw [if_neg (by omega)], fun w => ?_⟩
  rw [run_sliceAt_slice _ _ _ _ _ _ ht', run_slice_l _ _ _ _ _ ht' _ _ (by omega) (by omega)]
  have hsz : (sizeOf ((Try.prog).elem 100)).run Try.prog w = .ok 3 w := by rw [he]; kernel_rfl
  rw [hsz]
  simp only [Result.andThen, sliced, Int.toNat_natCast]
  by_cases e : cap = n
  · rw [if_pos e, if_pos e]
  · rw [if_neg e, if_neg e]
    simp [Addr.add_lit]
theorem wp_pop {w : World} {o : Oper} {a : Act} {K : Act → World → Prop} {Q : Exit → Act → World → Prop} (s x : Operand) (ho : o.op = .call { callee := .builtin .append, args := #[s, x], argTypes := #[100, 100] })
    (b cap n i c : Nat) (l : List It) (a2 : Addr) (hn : l.length = n) (hi : i < n) (hnc : n ≤ cap) (hpad : Pad w b (3 * cap) (hrow l)) (ha2 : i + 1 < cap → a2 = ⟨b, (i + 1) * 3, none⟩)
    (hs : a.eval s = .slice (some ⟨b, 0, none⟩) i cap) (hx : a.eval x = .slice (some a2) (n - (i + 1)) c)
    (h : ∀ w', Pad w' b (3 * cap) (hrow (l.eraseIdx i)) → KeptBut b w w' → K (a.put o.dst (.slice (some ⟨b, 0, none⟩) (n - 1) cap)) w') : Oper.wp Try.prog o a w K Q := by
  obtain ⟨ii, hii, hz0, hz1, hz2⟩ := info_parts (P := Try.prog) (e := 138) (z := .agg #[.int .i64 (0), .int .i64 (0), .int .i64 (0)]) (size := 3) (bytes := 24) (by kernel_rfl)
  have hll := hrow_len l
  have hnl : (hrow (l.drop (i + 1))).length = (n - (i + 1)) * 3 := by rw [hrow_len]; simp [hn]
  have hp1 : Pad w b (3 * cap) (hrow (l.take i)) := by
    rw [← hrow_take]
    refine ⟨hpad.lt, hpad.has, hpad.fz, fun j u hj => ?_, ?_⟩
    · rw [List.getElem?_take] at hj
      split at hj
      · exact hpad.is j u hj
      · cases hj
    · have := hpad.len
      simp; omega
  have hl1 : (hrow (l.take i)).length = i * 3 := by rw [hrow_len]; simp; omega
  have hrun := run_append_room_cells (P := Try.prog) w 100 o.type 138 ii Try.underlying100 hii b 0 i cap a2 (n - (i + 1)) c (hrow (l.drop (i + 1))) (by rw [hz1]; exact hnl)
    (fun j u hj => by
      have hj2 := (List.getElem?_eq_some_iff.1 hj).1
      rw [hnl] at hj2
      rw [ha2 (by omega), Addr.add_lit]
      rw [← hrow_drop, List.getElem?_drop] at hj
      exact hpad.is _ u hj) (fun u hu => hrow_one _ u hu) (by omega)
    (fun j hj => by rw [hz1, Nat.zero_add]; rw [hnl] at hj; exact hpad.has _ (by omega)) (fun j hj => by rw [hz1, Nat.zero_add]; rw [hnl] at hj; exact hpad.fz _ (by omega))
  rw [hz1, Nat.zero_add, ← hl1, show i + (n - (i + 1)) = n - 1 by omega] at hrun
  unfold Oper.wp
  simp [execOp, ho, resolve, invoke, builtin, hs, hx, hrun, Result.andThen]
  refine h _ ?_ (setCells_kept b _ _ w)
  have := hp1.push (hrow (l.drop (i + 1))) (by rw [hl1, hnl]; omega)
  rw [List.eraseIdx_eq_take_drop_succ, hrow_app]
  exact this
/-- What Pop leaves. -/
def popPost (lab : Nat → Nat) (p : Nat) (f : Nat → Value) (l : List It) (w : World) (e : Ending) (w' : World) : Prop :=
  ∃ hv', e = .returned (.tuple #[.agg #[.int .i64 ((l.getD (best l) It.nil).k), .int .i64 ((l.getD (best l) It.nil).t), .int .i64 ((l.getD (best l) It.nil).v)], .bool true]) ∧ Blk w' p 16 (upd f 2 hv') ∧ LAt w' lab 6 3 hv' (l.length - 1) (hrow (l.eraseIdx (best l))) ∧ KeptL lab (fun x => x = 5 ∨ x = 6) w w'
theorem pop_nil (p : Nat) (f : Nat → Value) (lab : Nat → Nat) (w : World) (hb : Blk w p 16 f) (hl : LAt w lab 6 3 (f 2) 0 []) :
    Calls Try.prog 87 #[.pointer (some ⟨p, 2, none⟩)] w fun e w' => e = .returned (.tuple #[.agg #[.int .i64 (0), .int .i64 (0), .int .i64 (0)], .bool false]) ∧ ∃ z, w' = w.ext z := by
  obtain ⟨ho, hc, hv⟩ := hl.val
  have c2 := hb.is 2 (by omega)
  rw [hv] at c2
  have hpl := hb.lt
  clear hb hl hv
  go_enter Try.func87, Try.ntmps87
  go_wp2
  refine bodyPost_ret (v := .tuple #[.agg #[.int .i64 (0), .int .i64 (0), .int .i64 (0)], .bool false]) (by simp [results, Try.results87, go_sem, ↓IntWalk.iteOmega]) rfl ?_
  refine ⟨rfl, ?_⟩
  refine Below.is_ext ?_
  repeat (first | with_reducible exact Below.rf _ | with_reducible exact World.below_ext _ _ | with_reducible refine Below.ex ?_ _ | with_reducible refine Below.al ?_ _ | with_reducible refine Below.setCell ?_ (by simp) _ | with_reducible refine Below.drew ?_)
theorem pop_any (p : Nat) (f : Nat → Value) (l : List It) (lab : Nat → Nat) (w : World) (hb : Blk w p 16 f) (hl : LAt w lab 6 3 (f 2) l.length (hrow l)) (hlp : lab p = 5) (hn0 : 0 < l.length) (hn1 : l.length ≤ 1000000000) :
    Calls Try.prog 87 #[.pointer (some ⟨p, 2, none⟩)] w (popPost lab p f l w) := by
  obtain ⟨bx, hc, hv, hcc, hbl, hlb, hcell⟩ := hl.see hn0
  obtain ⟨ao, cap2, hv2, hc2, hor⟩ := hl.ex
  have hpad : Pad w bx (3 * hc) (hrow l) := by
    rw [hv] at hv2
    simp only [Value.slice.injEq] at hv2
    obtain ⟨rfl, -, rfl⟩ := hv2
    rcases hor with ⟨e, -⟩ | ⟨b, e, -, hp⟩
    · cases e
    · simp at e; subst e; exact hp
  clear hv2 hor hc2
  have c2 := hb.is 2 (by omega)
  rw [hv] at c2
  have z2 := hb.fz 2 (by omega)
  have HB := hid hb
  have HLp := hid hlp
  have HLb := hid hlb
  have HC := hid hcell
  have HPad := hid hpad
  have hpl := hb.lt
  obtain ⟨n, hnn⟩ : ∃ n, l.length = n := ⟨_, rfl⟩
  have hbst := best_lt hn0
  rw [hnn] at c2 hn0 hn1 hcc hbst
  have HN := hid hnn
  have HV := hid hv
  have hpb : p ≠ bx := fun e => by rw [e, hlb] at hlp; omega
  have HPB := hid hpb
  clear hb hl hlp hv hnn hcell hpad hlb
  go_enter Try.func87, Try.ntmps87
  go_wp2
  go_loopw [4, 21] (fun x y wr => ∃ (j bst : Nat), x = .int .i64 (bst) ∧ y = .int .i64 (j) ∧ j ≤ n ∧ bst < n ∧ bestGo l (l.drop j) j bst = best l ∧ Below w.heap.size w wr ∧ Blk wr w.heap.size 3 (fun _ => .int .i64 (0))) (fun _ y _ => n - (intOf y).toNat)
  case atStart =>
    refine ⟨0, 0, rfl, rfl, Nat.zero_le _, hn0, rfl, ?_, ⟨by simp, fun i hi => ?_, fun i hi => by simp [go_sem, ↓IntWalk.iteOmega]⟩⟩
    · (repeat (first | with_reducible exact Below.rf _ | with_reducible exact World.below_ext _ _ | with_reducible refine Below.ex ?_ _ | with_reducible refine Below.al ?_ _ | with_reducible refine Below.setCell ?_ (by simp) _ | with_reducible refine Below.drew ?_))
    · rcases (by omega : i = 0 ∨ i = 1 ∨ i = 2) with rfl | rfl | rfl <;> simp [go_sem, ↓IntWalk.iteOmega]
  case round =>
    rename_i x4 x21
    obtain ⟨j, bst, rfl, rfl, hj, hbn, heq, hB, hT⟩ := hrel
    have HT := hid hT
    clear hT
    have HBw := hid hB
    have hsz := hB.size
    have c2' : wr.cell? ⟨p, 2, none⟩ = some (.slice (some ⟨bx, 0, none⟩) n hc) := (World.cell?_of_block (hB.block p hpl)).trans c2
    have hplw : p < wr.heap.size := by omega
    have hblw : bx < wr.heap.size := by omega
    have hgb : l.getD bst It.nil = l[bst]'(by rw [HN.out]; exact hbn) := by simp [List.getD_eq_getElem?_getD, HN.out, hbn]
    have hy : l[bst]? = some (l[bst]'(by rw [HN.out]; exact hbn)) := List.getElem?_eq_getElem _
    by_cases hjn : j < n
    · have hjl : j < l.length := by rw [HN.out]; exact hjn
      have hx : l[j]? = some l[j] := List.getElem?_eq_getElem hjl
      have hdr : l.drop j = l[j] :: l.drop (j + 1) := List.drop_eq_getElem_cons hjl
      rw [hdr, bestGo, hgb] at heq
      generalize l[bst]'(by rw [HN.out]; exact hbn) = Y at *
      generalize l[j] = X at *
      obtain ⟨x0, x1, x2⟩ := hrow_at l j X hx
      obtain ⟨y0, y1, y2⟩ := hrow_at l bst Y hy
      have rd : ∀ k u, (hrow l)[k]? = some u → wr.cell? ⟨bx, k, none⟩ = some u := fun k u hk => (World.cell?_of_block (hB.block bx hbl)).trans (HC.out k u hk)
      have r0 := rd _ _ x0
      have r1 := rd _ _ x1
      have r2 := rd _ _ x2
      have s0 := rd _ _ y0
      have s1 := rd _ _ y1
      have s2 := rd _ _ y2
      obtain ⟨xk, xt, xv⟩ := X
      obtain ⟨yk, yt, yv⟩ := Y
      simp only at r0 r1 r2 s0 s1 s2
      have dj : decide ((j : Int) < (n : Int)) = true := by simp; omega
      clear rd x0 x1 x2 y0 y1 y2 hx hdr hB hy hgb
      by_cases g1 : xk < yk
      · have hif : It.lt ⟨xk, xt, xv⟩ ⟨yk, yt, yv⟩ = true := by simp [It.lt, g1]
        rw [if_pos hif] at heq
        clear hif
        have HE := hid heq
        clear heq
        go_wp2
        go_roundw
        case rel =>
          refine ⟨j + 1, j, by go_num, by go_num, by omega, by omega, HE.out, ?_, HT.out.below ?_⟩
          · refine HBw.out.trans (Below.mono ?_ HBw.out.size)
            (repeat (first | with_reducible exact Below.rf _ | with_reducible exact World.below_ext _ _ | with_reducible refine Below.ex ?_ _ | with_reducible refine Below.al ?_ _ | with_reducible refine Below.setCell ?_ (by simp) _ | with_reducible refine Below.drew ?_))
          · (repeat (first | with_reducible exact Below.rf _ | with_reducible exact World.below_ext _ _ | with_reducible refine Below.ex ?_ _ | with_reducible refine Below.al ?_ _ | with_reducible refine Below.setCell ?_ (by simp) _ | with_reducible refine Below.drew ?_))
        case measure => simp [intOf]; omega
      · by_cases g2 : xk = yk
        · subst g2
          have e1 : ((xk : Int) == (xk : Int)) = true := by simp
          by_cases g3 : xt < yt
          · have hif : It.lt ⟨xk, xt, xv⟩ ⟨xk, yt, yv⟩ = true := by simp [It.lt, g3]
            rw [if_pos hif] at heq
            clear hif
            have HE := hid heq
            clear heq
            go_wp2
            go_roundw
            case rel =>
              refine ⟨j + 1, j, by go_num, by go_num, by omega, by omega, HE.out, ?_, HT.out.below ?_⟩
              · refine HBw.out.trans (Below.mono ?_ HBw.out.size)
                (repeat (first | with_reducible exact Below.rf _ | with_reducible exact World.below_ext _ _ | with_reducible refine Below.ex ?_ _ | with_reducible refine Below.al ?_ _ | with_reducible refine Below.setCell ?_ (by simp) _ | with_reducible refine Below.drew ?_))
              · (repeat (first | with_reducible exact Below.rf _ | with_reducible exact World.below_ext _ _ | with_reducible refine Below.ex ?_ _ | with_reducible refine Below.al ?_ _ | with_reducible refine Below.setCell ?_ (by simp) _ | with_reducible refine Below.drew ?_))
            case measure => simp [intOf]; omega
          · have hif : ¬ It.lt ⟨xk, xt, xv⟩ ⟨xk, yt, yv⟩ = true := by simp [It.lt]; omega
            rw [if_neg hif] at heq
            clear hif
            have HE := hid heq
            clear heq
            go_wp2
            go_roundw
            case rel =>
              refine ⟨j + 1, bst, by go_num, by go_num, by omega, by omega, HE.out, ?_, HT.out.below ?_⟩
              · refine HBw.out.trans (Below.mono ?_ HBw.out.size)
                (repeat (first | with_reducible exact Below.rf _ | with_reducible exact World.below_ext _ _ | with_reducible refine Below.ex ?_ _ | with_reducible refine Below.al ?_ _ | with_reducible refine Below.setCell ?_ (by simp) _ | with_reducible refine Below.drew ?_))
              · (repeat (first | with_reducible exact Below.rf _ | with_reducible exact World.below_ext _ _ | with_reducible refine Below.ex ?_ _ | with_reducible refine Below.al ?_ _ | with_reducible refine Below.setCell ?_ (by simp) _ | with_reducible refine Below.drew ?_))
            case measure => simp [intOf]; omega
        · have hif : ¬ It.lt ⟨xk, xt, xv⟩ ⟨yk, yt, yv⟩ = true := by simp [It.lt, g2]; omega
          rw [if_neg hif] at heq
          clear hif
          have e1 : ((xk : Int) == (yk : Int)) = false := by simp; omega
          have HE := hid heq
          clear heq g2
          go_wp2
          go_roundw
          case rel =>
            refine ⟨j + 1, bst, by go_num, by go_num, by omega, by omega, HE.out, ?_, HT.out.below ?_⟩
            · refine HBw.out.trans (Below.mono ?_ HBw.out.size)
              (repeat (first | with_reducible exact Below.rf _ | with_reducible exact World.below_ext _ _ | with_reducible refine Below.ex ?_ _ | with_reducible refine Below.al ?_ _ | with_reducible refine Below.setCell ?_ (by simp) _ | with_reducible refine Below.drew ?_))
            · (repeat (first | with_reducible exact Below.rf _ | with_reducible exact World.below_ext _ _ | with_reducible refine Below.ex ?_ _ | with_reducible refine Below.al ?_ _ | with_reducible refine Below.setCell ?_ (by simp) _ | with_reducible refine Below.drew ?_))
          case measure => simp [intOf]; omega
    · have hbe : bst = best l := by
        rw [List.drop_eq_nil_of_le (by rw [HN.out]; omega), bestGo] at heq
        exact heq
      have HBE := hid hbe
      obtain ⟨y0, y1, y2⟩ := hrow_at l bst _ hy
      have rd : ∀ k u, (hrow l)[k]? = some u → wr.cell? ⟨bx, k, none⟩ = some u := fun k u hk => (World.cell?_of_block (hB.block bx hbl)).trans (HC.out k u hk)
      have s0 := rd _ _ y0
      have s1 := rd _ _ y1
      have s2 := rd _ _ y2
      have HGB := hid hgb
      generalize l[bst]'(by rw [HN.out]; exact hbn) = Y at *
      obtain ⟨yk, yt, yv⟩ := Y
      simp only at s0 s1 s2
      have dj : decide ((j : Int) < (n : Int)) = false := by simp; omega
      have HB1 := hid (HB.out.of_block hB.size (hB.block p hpl))
      have HP1 : Hid (Pad wr bx (3 * hc) (hrow l)) := HPad.out.of_block hB.size (hB.block bx hbl)
      clear rd y0 y1 y2 hB hy hgb hbe heq
      have hE : Below wr.heap.size wr (wr.alloc (Obj.cells #[.int .i64 (yk), .int .i64 (yt), .int .i64 (yv)] 138)) := (Below.rf _).al _
      have KE := hid (And.intro (HB1.out.below hE) (And.intro (HP1.out.below hE) (And.intro (HT.out.below hE) (HBw.out.trans (hE.mono HBw.out.size)))))
      have KQ : Hid (Blk (wr.alloc (Obj.cells #[.int .i64 (yk), .int .i64 (yt), .int .i64 (yv)] 138)) wr.heap.size 3 (fc (.int .i64 (yk)) (.int .i64 (yt)) (.int .i64 (yv)) undef)) := ⟨by simp, fun i hi => by (rcases (by omega : i = 0 ∨ i = 1 ∨ i = 2) with rfl | rfl | rfl <;> simp [go_sem, ↓IntWalk.iteOmega, fc]), fun i hi => by simp [go_sem, ↓IntWalk.iteOmega]⟩
      have hqb : bx < wr.heap.size ∧ p < wr.heap.size ∧ w.heap.size < wr.heap.size := ⟨hblw, hplw, HT.out.lt⟩
      clear hE
      go_wp2
      obtain ⟨qb, hq⟩ : ∃ x, wr.heap.size = x := ⟨_, rfl⟩
      rw [hq] at KQ hqb ⊢
      generalize (wr.alloc (Obj.cells #[.int .i64 (yk), .int .i64 (yt), .int .i64 (yv)] 138)) = wE at *
      clear hq c2' s0 s1 s2 HB1 HP1 HBw HT hsz hplw hblw dj
      have e2 : wE.cell? ⟨p, 2, none⟩ = some (.slice (some ⟨bx, 0, none⟩) n hc) := by
        have := KE.out.1.is 2 (by omega)
        rw [HV.out, HN.out] at this
        exact this
      have ez := KE.out.1.fz 2 (by omega)
      have el := KE.out.1.lt
      have el2 := KE.out.2.1.lt
      have hw1 : IntKind.i64.wrap ((bst : Int) + 1) = (bst : Int) + 1 := by simp [IntKind.wrap, IntKind.bits, IntKind.signed]; omega
      have sh := slice_h3 bx bst n hc (by omega) (by omega)
      obtain ⟨a2, ha2, sl⟩ := slice_l3 bx (bst + 1) n hc ((bst : Int) + 1) (by omega) (by omega)
      have HA2 := hid ha2
      clear ha2
      refine wp_region_tree 17 (fun w' => w'.cell? ⟨p, 2, none⟩ = some (.slice (some ⟨bx, 0, none⟩) n hc)) (.q 0 false (.q 1 false (.q 2 false (.q 3 false (.q 4 true (.q 5 false (.q 6 false (.q 7 false (.q 8 false (.q 9 false (.q 10 true (.q 11 false (.q 12 false (.q 13 false (.one 14 true (.q 15 false (.q 16 false (.one 17 false .nil)))))))))))))))))) (by kernel_rfl) (by kernel_rfl) (by kernel_rfl) ?_ ?_
      · simp [go_sem, ↓IntWalk.iteOmega, *]
      repeat (first | (refine wpTr_qf (v := ?_) rfl rfl ?_ ?_; rotate_left; focus (intro w; go_simp; (try (with_reducible rfl)); done); try simp only [List.getElem_toArray, List.getElem_cons_zero, List.getElem_cons_succ, Act.put, List.setIfInBounds_toArray, List.set_cons_zero, List.set_cons_succ]) | (refine wpTr_qt (v := ?_) rfl rfl ?_ ?_; rotate_left; focus (intro w hSw; (try dsimp only at hSw); go_simp; (try (with_reducible rfl)); done); try simp only [List.getElem_toArray, List.getElem_cons_zero, List.getElem_cons_succ, Act.put, List.setIfInBounds_toArray, List.set_cons_zero, List.set_cons_succ]))
      refine wpTr_one rfl rfl (fun K hK => ?_)
      refine wp_pop _ _ rfl bx hc n bst (hc - (bst + 1)) l a2 HN.out hbn hcc (KE.out.2.1.below (Below.rf _).drew) HA2.out (by simp [go_sem]) (by simp [go_sem]) (fun w8 hp8 hk8 => ?_)
      have hs8 := hk8.size
      simp only [World.size_drew] at hs8
      have b8 := (KE.out.1.below (Below.rf _).drew).kept hk8 HPB.out
      have s28 : w8.cell? ⟨p, 2, none⟩ = some (.slice (some ⟨bx, 0, none⟩) n hc) := by
        have := b8.is 2 (by omega)
        rw [HV.out, HN.out] at this
        exact this
      have z28 : w8.frozen? ⟨p, 2, none⟩ = false := b8.fz 2 (by omega)
      have t8 := (KE.out.2.2.1.below (Below.rf _).drew).kept hk8 (by omega)
      have q8 := (KQ.out.below (Below.rf _).drew).kept hk8 (by omega)
      have hkp : KeptBut p w8 (w8.setCell ⟨p, 2, none⟩ (.slice (some ⟨bx, 0, none⟩) (n - 1) hc)) := (KeptBut.refl p w8).set (Or.inl rfl) _
      have t9 := t8.kept hkp (by omega)
      have q9 := q8.kept hkp (by omega)
      have K8 := hid (And.intro (b8.set 2 (.slice (some ⟨bx, 0, none⟩) (n - 1) hc) (by omega)) (And.intro (hp8.kept hkp HPB.out.symm) (And.intro hk8 hkp)))
      refine hK.out _ _ (fun _ => s28) ?_
      clear hK K b8 t8 q8 hp8 hk8 hkp
      simp only [Act.put, List.setIfInBounds_toArray, List.set_cons_zero, List.set_cons_succ]
      repeat (first | (refine wpTr_qf (v := ?_) rfl rfl ?_ ?_; rotate_left; focus (intro w; go_simp; (try (with_reducible rfl)); done); try simp only [List.getElem_toArray, List.getElem_cons_zero, List.getElem_cons_succ, Act.put, List.setIfInBounds_toArray, List.set_cons_zero, List.set_cons_succ]) | (refine wpTr_qt (v := ?_) rfl rfl ?_ ?_; rotate_left; focus (intro w hSw; (try dsimp only at hSw); go_simp; (try (with_reducible rfl)); done); try simp only [List.getElem_toArray, List.getElem_cons_zero, List.getElem_cons_succ, Act.put, List.setIfInBounds_toArray, List.set_cons_zero, List.set_cons_succ]))
      refine wpTr_one rfl rfl (fun K hK => ?_)
      go_simp
      refine hK.out _ _ (fun h => by cases h) ?_
      clear hK K
      refine wpTr_nil ?_
      refine NoPanic.normal ?_
      obtain ⟨w9, hw9⟩ : ∃ x, w8.setCell ⟨p, 2, none⟩ (.slice (some ⟨bx, 0, none⟩) (n - 1) hc) = x := ⟨_, rfl⟩
      rw [hw9] at K8 t9 q9 ⊢
      have v0 : w9.cell? ⟨qb, 0, none⟩ = some (.int .i64 (yk)) := q9.is 0 (by omega)
      have v1 : w9.cell? ⟨qb, 1, none⟩ = some (.int .i64 (yt)) := q9.is 1 (by omega)
      have v2 : w9.cell? ⟨qb, 2, none⟩ = some (.int .i64 (yv)) := q9.is 2 (by omega)
      have u0 := t9.is 0 (by omega)
      have u1 := t9.is 1 (by omega)
      have u2 := t9.is 2 (by omega)
      have zz0 := t9.fz 0 (by omega)
      have zz1 := t9.fz 1 (by omega)
      have zz2 := t9.fz 2 (by omega)
      have l9 := q9.lt
      have l10 := t9.lt
      have HW9 := hid hw9
      clear hw9 q9 t9
      go_wp2
      refine bodyPost_ret (v := .tuple #[.agg #[.int .i64 (yk), .int .i64 (yt), .int .i64 (yv)], .bool true]) (by simp [results, Try.results87, go_sem, ↓IntWalk.iteOmega, u0, u1, u2]) rfl ?_
      obtain ⟨b9, p9, k8, k9⟩ := K8.out
      have kt : KeptBut w.heap.size w9 (((w9.setCell ⟨w.heap.size, 0, none⟩ (.int .i64 (yk))).setCell ⟨w.heap.size, 1, none⟩ (.int .i64 (yt))).setCell ⟨w.heap.size, 2, none⟩ (.int .i64 (yv))) := (((KeptBut.refl w.heap.size w9).set (Or.inl rfl) _).set (Or.inl rfl) _).set (Or.inl rfl) _
      refine ⟨.slice (some ⟨bx, 0, none⟩) (n - 1) hc, by rw [← HBE.out, HGB.out], (b9.kept kt (by omega)).below (by (repeat (first | with_reducible exact Below.rf _ | with_reducible exact World.below_ext _ _ | with_reducible refine Below.ex ?_ _ | with_reducible refine Below.al ?_ _ | with_reducible refine Below.setCell ?_ (by simp) _ | with_reducible refine Below.drew ?_))), ?_, ?_⟩
      · have hln : (hrow (l.eraseIdx (best l))).length = (n - 1) * 3 := by
          rw [hrow_len, List.length_eraseIdx_of_lt (by rw [HN.out]; omega), HN.out]
        rw [HN.out]
        refine ⟨hln, _, hc, rfl, by omega, Or.inr ⟨bx, rfl, ⟨HLb.out, by omega⟩, ?_⟩⟩
        rw [← HBE.out]
        exact (p9.kept kt (by omega)).below (by (repeat (first | with_reducible exact Below.rf _ | with_reducible exact World.below_ext _ _ | with_reducible refine Below.ex ?_ _ | with_reducible refine Below.al ?_ _ | with_reducible refine Below.setCell ?_ (by simp) _ | with_reducible refine Below.drew ?_)))
      · have hbw := KE.out.2.2.2
        have h1 : KeptL lab (fun x => x = 5 ∨ x = 6) w wE := ⟨hbw.os, hbw.tape, hbw.output, hbw.size, fun k hk _ => hbw.block k hk⟩
        refine ⟨?_, ?_, ?_, ?_, ?_⟩
        · exact (kt.os.trans (k9.os.trans (k8.os.trans h1.os)))
        · exact (kt.tape.trans (k9.tape.trans (k8.tape.trans h1.tape)))
        · exact (kt.output.trans (k9.output.trans (k8.output.trans h1.output)))
        · exact Nat.le_trans (Nat.le_trans (Nat.le_trans h1.size (by exact k8.size)) k9.size) kt.size
        · intro k hk hne
          have n1 : k ≠ p := fun e => hne (Or.inl (by rw [e]; exact HLp.out))
          have n2 : k ≠ bx := fun e => hne (Or.inr (by rw [e]; exact HLb.out))
          have hkE : k < wE.heap.size := Nat.lt_of_lt_of_le hk h1.size
          have hk8' : k < w8.heap.size := Nat.lt_of_lt_of_le hkE k8.size
          exact (kt.block k (Nat.lt_of_lt_of_le hk8' k9.size) (by omega)).trans ((k9.block k hk8' n1).trans ((k8.block k hkE n2).trans (h1.block k hk hne)))
end Go.Proofs.Qxb6500716a
