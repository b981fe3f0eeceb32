/-
  Clone: the walk.
-/
import Derived.Test.Qxb6500716aTl
import Derived.Laws.AppendOwnNone
namespace Go.Proofs.Qxb6500716a
open Go.RowKit Go.Maps
set_option linter.unusedSimpArgs false
set_option linter.unusedVariables false
set_option maxRecDepth 20000
set_option maxHeartbeats 4000000

theorem key2_same (a b : Int) : (key2 a b).sameKey (key2 a b) = true := by simp [key2, Lit.sameKey]
/-- 'append(nil, x..)': a copy of a list. -/
theorem wpl_copy {w : World} {ops : Array Oper} {rest : List Oper} {o : Oper} {a : Act} {Q : Exit → Act → World → Prop} (hgd : o.guard = none) (s x : Operand) (t e : TypeId) (z : Value) (sz bytes : Nat)
    (ho : o.op = .call { callee := .builtin .append, args := #[s, x], argTypes := #[t, t] })
    (ht : Try.prog.underlying t = some (.slice e)) (hinfo : (Try.prog.info? e).map (fun i => (i.zero, i.size, i.bytes)) = some (some z, sz, bytes)) (hzs : z.cells.size = sz) (hsz : 0 < sz)
    (lab : Nat → Nat) (tag : Nat) (v : Value) (n : Nat) (vs : List Value) (hs : a.eval s = .slice none 0 0) (hx : a.eval x = v) (hls : LAt w lab tag sz v n vs) (hl : n * bytes ≤ 140737488355328) (hl2 : n ≤ 140737488355328) (hone : ∀ u ∈ vs, u.oneCell' = true)
    (lab2 : Nat → Nat) (tag2 : Nat) (hlab2 : ∀ b, w.heap.size ≤ b → lab2 b = tag2)
    (h : ∀ v' w', LAt w' lab2 tag2 sz v' n vs → Below w.heap.size w w' → wpList Try.prog ops Q rest (a.put o.dst v') w') : wpList Try.prog ops Q (o :: rest) a w := by
  obtain ⟨ao, cap, hv, hlc, hc⟩ := hls.ex
  have hlen := hls.len
  obtain ⟨i, hi, hz0, hz1, hz2⟩ := info_parts hinfo
  rcases hc with ⟨rfl, rfl⟩ | ⟨b, rfl, hlab, hpad⟩
  · have hn0 : n = 0 := by omega
    subst hn0
    have hvs : vs = [] := List.length_eq_zero_iff.1 (by omega)
    subst hvs
    refine wpList_append_own_none hgd s x t ho w.heap.size e i sz ht hi _ 0 [] hs (nil_own _ _ _ _) (by rw [hx, hv]) ?_
    exact h _ _ (LAt.nil _ _ _ _) (Below.rf _)
  · refine wpList_append_own w hgd s x t ho w.heap.size e i z sz bytes ht hi hz0 hz1 hz2 hzs hsz _ 0 [] hs (nil_own _ _ _ _) ⟨b, 0, none⟩ n cap vs (by rw [hx, hv]) hlen (fun j u hj => by rw [Addr.add_lit, Nat.zero_add]; exact hpad.is j u hj) hone (by simp only [maxLen]; omega) (by rw [Nat.zero_add]; exact hl) (Nat.le_refl _) fun v' w' h2 h3 _ => ?_
    refine h v' w' ?_ ((Below.refl w.heap.size w).grown h3 (Nat.le_refl _) (fun k hk => by cases hk))
    rw [Nat.zero_add, List.nil_append] at h2
    obtain ⟨h4, h5⟩ := h2
    rcases h5 with ⟨rfl, h6⟩ | ⟨g, cap2, cur, hv2, hg, hh, hnc, _, hsz2, ht2⟩
    · subst h6
      have hvs : vs = [] := List.length_eq_zero_iff.1 (by omega)
      subst hvs
      exact LAt.nil _ _ _ _
    · have hms : sz * cap2 = cap2 * sz := Nat.mul_comm _ _
      have hns : n * sz ≤ cap2 * sz := Nat.mul_le_mul_right _ hnc
      refine ⟨hlen, _, cap2, hv2, hnc, Or.inr ⟨g, rfl, ⟨hlab2 g hg, Nat.zero_le _⟩, (Array.getElem?_eq_some_iff.1 hh).1, fun j hj => ?_, fun j hj => ?_, fun j u hu => ?_, by omega⟩⟩
      · rw [cell_of_row _ _ j cur e (0, 0) hh, Array.getElem?_eq_getElem (by omega)]; rfl
      · unfold World.frozen?; simp only [hh]; simp
      · rw [cell_of_row _ _ j cur e (0, 0) hh]
        rw [← ht2, List.getElem?_take] at hu
        split at hu
        · simpa using hu
        · cases hu
def labC (n b : Nat) : Nat := if b < n then 0 else if b = n then 2 else if b = n + 1 then 3 else 4
theorem labC_t (n : Nat) : labC n n = 2 := by simp [labC]
theorem labC_m (n : Nat) : labC n (n + 1) = 3 := by unfold labC; rw [if_neg (by omega), if_neg (by omega), if_pos rfl]
theorem labC_s {n b : Nat} (h : n + 2 ≤ b) : labC n b = 4 := by unfold labC; rw [if_neg (by omega), if_neg (by omega), if_neg (by omega)]
theorem labC_o {n b : Nat} (h : b < n) : labC n b = 0 := by unfold labC; rw [if_pos h]
def clonePost (T : TS) (w : World) (e : Ending) (w' : World) : Prop :=
  ∃ (lab : Nat → Nat) (M : TM), e = .returned (.pointer (some ⟨M.t, 0, none⟩)) ∧ TAt w' lab M T ∧ (∀ k, k < w.heap.size → lab k = 0) ∧ Below w.heap.size w w'
theorem clone_any (M : TM) (T : TS) (lab : Nat → Nat) (w : World) (h : TAt w lab M T) : Calls Try.prog 19 #[.pointer (some ⟨M.t, 0, none⟩)] w (clonePost T w) := by
  have HH := hid h
  have hlt := h.bt.lt
  have c0 := h.c0
  have c1 := h.c1
  have c2 := h.c2
  have c3 := h.c3
  have c4 := h.c4
  have c5 := h.c5
  have hmlt := h.bm.lt
  obtain ⟨ao, cap, hv⟩ := h.bs.val
  rw [hv] at c5
  have HV := hid hv
  have hln := h.ln
  have hcn := h.cn
  obtain ⟨D0, hown0, hMI0⟩ := h.bm
  have HMI0 := hid hMI0
  have hmm := @run_makeMap Try.prog
  clear h hv hMI0
  go_enter Try.func19, Try.ntmps19
  go_wp2_with (first | (at_range; refine hold ?_) | go_in)
  unfold Hid
  refine wpList_range_own _ rfl _ 109 rfl 113 3 law113 Try.underlying109 _ M.m _ D0 rfl ((hown0.alloc _).alloc _) ?_
  intro w0 hrg0 hg0 hs0
  go_wp2
  (try go_frame)
  have hB0 : Below w.heap.size w w0 := by
    have : Below w.heap.size w ((w.alloc (Obj.cells #[.int .i64 (T.nc), .int .i64 (T.nr), .int .i64 (T.cap), .int .i64 (T.base), .map (some (w.heap.size + 1)), .slice ao T.sp.length cap] 112)).alloc (Obj.map #[] 0)) := by (repeat (first | with_reducible exact Below.rf _ | with_reducible exact World.below_ext _ _ | with_reducible refine Below.ex ?_ _ | with_reducible refine Below.al ?_ _ | with_reducible refine Below.setCell ?_ (by simp) _ | with_reducible refine Below.drew ?_))
    exact this.grown hg0 this.size (fun k hk => by cases hk)
  have hBt : Blk w0 w.heap.size 6 (tcell ⟨w.heap.size, w.heap.size + 1, .slice ao T.sp.length cap⟩ T) := by
    refine Blk.of_block (w := (w.alloc (Obj.cells #[.int .i64 (T.nc), .int .i64 (T.nr), .int .i64 (T.cap), .int .i64 (T.base), .map (some (w.heap.size + 1)), .slice ao T.sp.length cap] 112)).alloc (Obj.map #[] 0)) ?_ hg0.size (hg0.block _ (by simp only [World.size_alloc]; omega) (by simp))
    refine ⟨by simp only [World.size_alloc]; omega, fun i hi => ?_, fun i hi => by simp [go_sem, ↓IntWalk.iteOmega]⟩
    rcases (by omega : i = 0 ∨ i = 1 ∨ i = 2 ∨ i = 3 ∨ i = 4 ∨ i = 5) with rfl | rfl | rfl | rfl | rfl | rfl <;> simp [go_sem, ↓IntWalk.iteOmega, tcell]
  have hMt : MAt w0 (w.heap.size + 1) (fun _ _ => none) := by
    have := MAt.made (w.alloc (Obj.cells #[.int .i64 (T.nc), .int .i64 (T.nr), .int .i64 (T.cap), .int .i64 (T.base), .map (some (w.heap.size + 1)), .slice ao T.sp.length cap] 112))
    rw [World.size_alloc] at this
    exact this.of_block (hg0.block _ (by simp only [World.size_alloc]; omega) (by simp))
  (try simp only [World.size_alloc] at hrg0)
  (try simp only [World.size_alloc] at hs0)
  (try simp only [World.size_alloc])
  have HB0 := hid hB0
  have HBt := hid hBt
  have HMt := hid hMt
  clear hB0 hBt hMt hg0 hown0
  obtain ⟨it, hit⟩ : ∃ n, w.heap.size + 1 + 1 = n := ⟨_, rfl⟩
  rw [hit] at hrg0 ⊢
  go_loopw [] (fun wr => ∃ (left : Lit → Bool) (cnt : Nat) (g : Int → Int → Option Int), wr.ranges Try.prog 113 (plainElem Try.prog 3) M.m it (Maps.size D0) D0 left cnt ∧ MAt wr (w.heap.size + 1) g ∧ (∀ a b, g a b = none ∨ g a b = T.tm a b) ∧ (∀ a b x, T.tm a b = some x → left (key2 a b) = true → g a b = none) ∧ (∀ a b x, T.tm a b = some x → left (key2 a b) = false → g a b = some x) ∧ Blk wr w.heap.size 6 (tcell ⟨w.heap.size, w.heap.size + 1, .slice ao T.sp.length cap⟩ T) ∧ Below w.heap.size w wr)
    (fun wr => wr.rangeLeft M.m it)
  case atStart =>
    refine ⟨_, _, _, hrg0, HMt.out, fun a b => Or.inl rfl, fun a b x h1 h2 => rfl, fun a b x h1 h2 => ?_, HBt.out, HB0.out⟩
    have i1 := HMI0.out.i64 h1
    rw [HMI0.out.has a b i1.1 i1.2.1, h1] at h2
    cases h2
  case round =>
    obtain ⟨left, cnt, g, hrg, hM, hg1, hg2, hg3, hBt, hB⟩ := hrel
    have HM := hid hM
    have HG1 := hid hg1
    have HG2 := hid hg2
    have HG3 := hid hg3
    have HBt2 := hid hBt
    have HB := hid hB
    have c4' : wr.cell? ⟨w.heap.size, 4, none⟩ = some (.map (some (w.heap.size + 1))) := hBt.is 4 (by omega)
    have c5' : wr.cell? ⟨M.t, 5, none⟩ = some (.slice ao T.sp.length cap) := (World.cell?_of_block (hB.block M.t hlt)).trans c5
    have fz5 : wr.frozen? ⟨w.heap.size, 5, none⟩ = false := hBt.fz 5 (by omega)
    have c55 : wr.cell? ⟨w.heap.size, 5, none⟩ = some (.slice ao T.sp.length cap) := hBt.is 5 (by omega)
    have hltr : w.heap.size < wr.heap.size := hBt.lt
    have hsz := hB.size
    have hitl : it < wr.heap.size := hrg.lt
    clear hM hg1 hg2 hg3 hBt hB
    go_wp2_with (first | (at_next; refine wpList_next_tm _ rfl _ rfl M.m it _ _ T.tm _ _ rfl hrg HMI0 ?_ ?_) | go_in)
    · intro hc0 hl0
      have hge : g = T.tm := by
        funext a b
        rcases HG1.out a b with e | e
        · cases hx : T.tm a b with
          | none => exact e
          | some x => exact HG3.out a b x hx (hl0 _)
        · exact e
      subst hge
      have HLS : Hid (LAt wr lab 4 4 (.slice ao T.sp.length cap) T.sp.length (srow T.sp)) := by
        have := HH.out.bs.below HB.out
        rw [HV.out] at this
        exact this
      clear hl0 hc0
      go_wp2_with (first | (at_builtin; refine hold ?_))
      unfold Hid
      refine wpl_copy rfl _ _ 110 115 (.agg #[.int .i64 (0), .int .i64 (0), .int .i64 (0), .int .i64 (0)]) 4 32 rfl Try.underlying110 (by kernel_rfl) rfl (by decide) lab 4 _ T.sp.length (srow T.sp) rfl rfl HLS.out (by omega) (by omega) ?_ (labC w.heap.size) 4 (fun b hb => labC_s (by omega)) ?_
      · intro u hu
        simp only [srow, List.mem_flatMap] at hu
        obtain ⟨y, -, hy⟩ := hu
        simp at hy
        rcases hy with rfl | rfl | rfl | rfl <;> rfl
      intro v7 w7 hls7 hB7
      obtain ⟨ao7, cp7, rfl⟩ := hls7.val
      have hsz7 := hB7.size
      have bt7 := HBt2.out.below hB7
      have fz7 : w7.frozen? ⟨w.heap.size, 5, none⟩ = false := bt7.fz 5 (by omega)
      have c57 : w7.cell? ⟨w.heap.size, 5, none⟩ = some (.slice ao T.sp.length cap) := bt7.is 5 (by omega)
      have hT : TAt (w7.setCell ⟨w.heap.size, 5, none⟩ (.slice ao7 T.sp.length cp7)) (labC w.heap.size) ⟨w.heap.size, w.heap.size + 1, .slice ao7 T.sp.length cp7⟩ T := by
        have hk : KeptL (labC w.heap.size) (fun x => x = 2) w7 (w7.setCell ⟨w.heap.size, 5, none⟩ (.slice ao7 T.sp.length cp7)) := (KeptL.refl _ _ _).set (labC_t _) _
        refine ⟨HH.out.bd, ?_, (HM.out.below hB7).keptL hk (by rw [labC_m]; omega), hls7.keptL hk (by omega), labC_t _, labC_m _⟩
        refine (bt7.set 5 _ (by omega)).congr (fun i hi => ?_)
        rcases (by omega : i = 0 ∨ i = 1 ∨ i = 2 ∨ i = 3 ∨ i = 4 ∨ i = 5) with rfl | rfl | rfl | rfl | rfl | rfl <;> rfl
      have HT := hid hT
      have HBf : Hid (Below w.heap.size w (w7.setCell ⟨w.heap.size, 5, none⟩ (.slice ao7 T.sp.length cp7))) := (HB.out.trans (hB7.mono HB.out.size)).setCell (by simp) _
      have hlt7 : w.heap.size < w7.heap.size := by omega
      clear hls7 hB7 bt7 hT
      go_wp2
      go_ret
      exact ⟨_, _, rfl, HT.out, fun k hk => labC_o hk, HBf.out⟩
    · intro a b x w1 cnt1 ia ib htm hleft hrg1 hlt1 hg1 hs1 hen
      have hgn : g a b = none := HG2.out a b x htm hleft
      have hM1 : MAt (w1.alloc (.cells #[.int .i64 (a), .int .i64 (b)] 113)) (w.heap.size + 1) g := (HM.out.of_block (hg1.block _ (by omega) (by simp; omega))).below ((Below.rf _).al _)
      have HM1 := hid hM1
      have hB1 : Below w.heap.size w w1 := HB.out.grown hg1 HB.out.size (fun k hk => by cases hk; omega)
      have HB1 := hid hB1
      have HBt1 : Hid (Blk w1 w.heap.size 6 (tcell ⟨w.heap.size, w.heap.size + 1, .slice ao T.sp.length cap⟩ T)) := HBt2.out.of_block hg1.size (hg1.block _ (by omega) (by simp; omega))
      have c41 : w1.cell? ⟨w.heap.size, 4, none⟩ = some (.map (some (w.heap.size + 1))) := HBt1.out.is 4 (by omega)
      have hxb := HMI0.out.bd.x a b x htm
      have hab := HMI0.out.bd.a a b x htm
      have hbb := HMI0.out.bd.b a b x htm
      have hcg : cntM g < 1000000 := by
        have := cntM_le (f := g) (g := T.tm) (fun a b h => by
          rcases HG1.out a b with e | e
          · rw [e] at h; cases h
          · rw [← e]; exact h)
        omega
      have HI := hid (And.intro ia ib)
      have HTM := hid htm
      clear hM1 hB1 hleft htm ia ib
      have hsz1 : w.heap.size + 1 + 1 < w1.heap.size := by omega
      go_wp2_with (first | (at_mapUpdate; refine wpList_put_tm _ rfl _ _ _ rfl (w.heap.size + 1) g a b x rfl HM1.out rfl rfl hab hbb hxb hgn hcg ?_; intro w2 hM2 hg2; go_frame) | go_in)
      go_roundw
      case rel =>
        refine ⟨_, cnt1, putM g a b x, (hrg1.alloc _).kept hg2 (by simp; omega) (by simp; omega), hM2, fun a' b' => ?_, fun a' b' x' h1 h2 => ?_, fun a' b' x' h1 h2 => ?_, (HBt1.out.below ((Below.rf _).al _)).of_block hg2.size (hg2.block _ (by simp only [World.size_alloc]; omega) (by simp)), ?_⟩
        · unfold putM
          split
          · rename_i e
            rw [e.1, e.2, HTM.out]; exact Or.inr rfl
          · exact HG1.out a' b'
        · simp only [Bool.and_eq_true, Bool.not_eq_true'] at h2
          unfold putM
          split
          · rename_i e
            have := h2.2
            rw [e.1, e.2, key2_same] at this
            cases this
          · exact HG2.out a' b' x' h1 h2.1
        · unfold putM
          split
          · rename_i e
            rw [e.1, e.2, HTM.out] at h1
            exact h1
          · rename_i e
            refine HG3.out a' b' x' h1 ?_
            cases hl : left (key2 a' b') with
            | false => rfl
            | true =>
              simp only [hl, Bool.true_and, Bool.not_eq_false'] at h2
              have i1 := HMI0.out.i64 h1
              exact absurd (key2_inj i1.1 i1.2.1 HI.out.1 HI.out.2 (WideAt.sameKey_eq h2)) e
        · exact (HB1.out.al _).grown hg2 ((HB1.out.al _).size) (fun k hk => by cases hk; omega)
      case measure => rw [((hrg1.alloc _).kept hg2 (by simp; omega) (by simp; omega)).left_eq, hrg.left_eq]; omega
end Go.Proofs.Qxb6500716a
