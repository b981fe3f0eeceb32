/-
  Truncate: the walk.
-/
import Derived.Test.Qxb6500716aTh
namespace Go.Proofs.Qxb6500716a
open Go.RowKit Go.Maps
set_option linter.unusedSimpArgs false
set_option linter.unusedVariables false
set_option maxRecDepth 20000
set_option maxHeartbeats 4000000

def cutM (f : Int → Int → Option Int) (r t : Int) : Int → Int → Option Int := fun a b => if a = r ∧ t ≤ b then none else f a b
def Sg.cut (x : Sg) (r t : Nat) : Sg := if x.r = r then { x with u := min x.u t } else x
def cutS (r t : Nat) : List Sg → List Sg
  | [] => []
  | x :: l => if (x.cut r t).f < (x.cut r t).u then x.cut r t :: cutS r t l else cutS r t l
theorem cutS_len (r t : Nat) : ∀ l, (cutS r t l).length ≤ l.length := by
  intro l
  induction l with
  | nil => simp [cutS]
  | cons x l ih => unfold cutS; split <;> simp <;> omega
theorem cut_bd {x : Sg} {nc r t : Nat} (h : x.r < 6 ∧ x.c < nc ∧ x.f ≤ 2000000000 ∧ x.u ≤ 1099511627776) : (x.cut r t).r < 6 ∧ (x.cut r t).c < nc ∧ (x.cut r t).f ≤ 2000000000 ∧ (x.cut r t).u ≤ 1099511627776 := by
  unfold Sg.cut
  split
  · exact ⟨h.1, h.2.1, h.2.2.1, by simp only; omega⟩
  · exact h
theorem cutS_bd {nc r t : Nat} : ∀ l : List Sg, (∀ x, x ∈ l → x.r < 6 ∧ x.c < nc ∧ x.f ≤ 2000000000 ∧ x.u ≤ 1099511627776) → ∀ x, x ∈ cutS r t l → x.r < 6 ∧ x.c < nc ∧ x.f ≤ 2000000000 ∧ x.u ≤ 1099511627776 := by
  intro l
  induction l with
  | nil => intro _ x hx; simp [cutS] at hx
  | cons y l ih =>
    intro h x hx
    unfold cutS at hx
    split at hx
    · simp at hx
      rcases hx with rfl | hx
      · exact cut_bd (h y (by simp))
      · exact ih (fun z hz => h z (by simp [hz])) x hx
    · exact ih (fun z hz => h z (by simp [hz])) x hx
theorem cntT_le {f g : Nat → Bool} (h : ∀ i, f i = true → g i = true) : ∀ n, cntT f n ≤ cntT g n := by
  intro n
  induction n with
  | zero => exact Nat.le_refl _
  | succ n ih =>
    simp only [cntT]
    have := h n
    cases hf : f n with
    | false => simp; omega
    | true => rw [this hf]; omega
theorem sumR_mono {f g : Nat → Nat} (h : ∀ i, f i ≤ g i) : ∀ n, sumR f n ≤ sumR g n := by
  intro n
  induction n with
  | zero => exact Nat.le_refl _
  | succ n ih => simp only [sumR]; have := h n; omega
theorem cntM_le {f g : Int → Int → Option Int} (h : ∀ a b, (f a b).isSome = true → (g a b).isSome = true) : cntM f ≤ cntM g := by
  unfold cntM
  rw [show NTf f = NTf g from (NTf_eq f).trans (NTf_eq g).symm]
  exact sumR_mono (fun i => cntT_le (fun j => h _ _) (NTf g)) 6
def TS.trunc (T : TS) (r t : Int) : TS := { T with tm := cutM T.tm r (max t T.base), sp := cutS r.toNat (max t T.base).toNat T.sp }

section
variable {w w2 : World} {lab : Nat → Nat} {M : TM} {T : TS}
theorem TAt.setMK (h : TAt w lab M T) {f : Int → Int → Option Int} (hk : KeptL lab (fun x => x = 3) w w2) (hm : MAt w2 M.m f) (hh : cntM f + T.sp.length ≤ 2000) : TAt w2 lab M { T with tm := f } :=
  ⟨{ h.bd with held := hh }, (h.bt.keptL hk (by rw [h.lt]; omega)).congr (fun i hi => by
    rcases (by omega : i = 0 ∨ i = 1 ∨ i = 2 ∨ i = 3 ∨ i = 4 ∨ i = 5) with rfl | rfl | rfl | rfl | rfl | rfl <;> rfl), hm, h.bs.keptL hk (by omega), h.lt, h.lm⟩
theorem ranges_below {b r n : Nat} {D : DataW Unit} {left : Lit → Bool} {cnt : Nat} (h : w.ranges Try.prog 113 (plainElem Try.prog 3) b r n D left cnt) (hb : Below w.heap.size w w2) : w2.ranges Try.prog 113 (plainElem Try.prog 3) b r n D left cnt :=
  h.kept (row := none) ⟨hb.os, hb.tape, hb.output, hb.size, fun i hi _ => hb.block i hi⟩ (by simp) (by simp)
end

theorem run_max (w : World) (x y z : Int) (h : max x y = z) (ty : TypeId) : (Builtin.max_ #[3, 3] ty #[.int .i64 (x), .int .i64 (y)]).run Try.prog w = .ok (.int .i64 (z)) w := by
  subst h
  by_cases hxy : x < y
  · rw [Int.max_eq_right (by omega)]
    simp [Builtin.max_, Builtin.max2, go_sem, hxy]
  · rw [Int.max_eq_left (by omega)]
    simp [Builtin.max_, Builtin.max2, go_sem, hxy]
theorem run_min (w : World) (x y z : Int) (h : min x y = z) (ty : TypeId) : (Builtin.min_ #[3, 3] ty #[.int .i64 (x), .int .i64 (y)]).run Try.prog w = .ok (.int .i64 (z)) w := by
  subst h
  by_cases hxy : y < x
  · rw [Int.min_eq_right (by omega)]
    simp [Builtin.min_, Builtin.min2, go_sem, hxy]
  · rw [Int.min_eq_left (by omega)]
    simp [Builtin.min_, Builtin.min2, go_sem, hxy]
theorem wpl_max {w : World} {ops : Array Oper} {rest : List Oper} {o : Oper} {a : Act} {Q : Exit → Act → World → Prop} (hgd : o.guard = none) (x y : Operand) (ho : o.op = .call { callee := .builtin .max, args := #[x, y], argTypes := #[3, 3] })
    (p q r : Int) (hx : a.eval x = .int .i64 (p)) (hy : a.eval y = .int .i64 (q)) (hr : max p q = r) (h : wpList Try.prog ops Q rest (a.put o.dst (.int .i64 (r))) w) : wpList Try.prog ops Q (o :: rest) a w := by
  refine wpList_plain hgd fun K hK => ?_
  unfold Oper.wp
  simp [execOp, ho, resolve, invoke, builtin, hx, hy, run_max w p q r hr, Result.andThen]
  exact hK _ _ h
theorem wpl_min {w : World} {ops : Array Oper} {rest : List Oper} {o : Oper} {a : Act} {Q : Exit → Act → World → Prop} (hgd : o.guard = none) (x y : Operand) (ho : o.op = .call { callee := .builtin .min, args := #[x, y], argTypes := #[3, 3] })
    (p q r : Int) (hx : a.eval x = .int .i64 (p)) (hy : a.eval y = .int .i64 (q)) (hr : min p q = r) (h : wpList Try.prog ops Q rest (a.put o.dst (.int .i64 (r))) w) : wpList Try.prog ops Q (o :: rest) a w := by
  refine wpList_plain hgd fun K hK => ?_
  unfold Oper.wp
  simp [execOp, ho, resolve, invoke, builtin, hx, hy, run_min w p q r hr, Result.andThen]
  exact hK _ _ h

theorem below_of_keptL {w w1 w2 : World} {lab2 : Nat → Nat} (h1 : Below w.heap.size w w1) (hk : KeptL lab2 (fun y => y = 4) w1 w2) (hl : ∀ b, b < w.heap.size → lab2 b = 0) : Below w.heap.size w w2 :=
  ⟨hk.os.trans h1.os, hk.tape.trans h1.tape, hk.output.trans h1.output, Nat.le_trans h1.size hk.size, fun k hk' => (hk.block k (Nat.lt_of_lt_of_le hk' h1.size) (by rw [hl k hk']; omega)).trans (h1.block k hk')⟩
theorem below_keptL {w w1 : World} {lab : Nat → Nat} {A : Nat → Prop} (h : Below w.heap.size w w1) : KeptL lab A w w1 := KeptL.of_below h

theorem trunc_any (M : TM) (T : TS) (lab : Nat → Nat) (r t : Int) (w : World) (h : TAt w lab M T) (hr : T.rOk r = true) (tt : Nat) (htt : max t (T.base : Int) = tt) (htb : (tt : Int) ≤ 9223372036854775807) :
    Calls Try.prog 52 #[.pointer (some ⟨M.t, 0, none⟩), .int .i64 (r), .int .i64 (t)] w (tabPost lab M (.tuple #[.int .i64 ((T.held : Int) - ((T.trunc r t).held : Int)), .int .i64 (0)]) (T.trunc r t) w) := by
  have HH := hid h
  have VR : Hid (Calls Try.prog 78 #[.pointer (some ⟨M.t, 0, none⟩), .int .i64 (r)] w fun e w' => e = .returned (.bool (T.rOk r)) ∧ w' = w) := isRobot_any M T lab r w h
  have HD := hid (held_any M T lab w h)
  rw [hr] at VR
  have hlt := h.bt.lt
  have c3 := h.c3
  have c4 := h.c4
  have c5 := h.c5
  have HTT := hid htt
  unfold TS.trunc
  rw [htt]
  rw [Int.toNat_natCast]
  obtain ⟨T', hT'⟩ : ∃ x : TS, { T with tm := cutM T.tm r tt, sp := cutS r.toNat tt T.sp } = x := ⟨_, rfl⟩
  rw [hT']
  have HT' := hid hT'
  have hr0 := hr
  clear hT' h hr
  obtain ⟨hd, hhd⟩ : ∃ n, T.held = n := ⟨_, rfl⟩
  have hdb := HH.out.bd.held
  rw [hhd] at HD hdb ⊢
  clear hhd
  obtain ⟨D0, hown0, hMI0⟩ := HH.out.bm
  have HMI0 := hid hMI0
  have hown1 := fun z : World => own_of hown0 ((World.below_ext w z).block M.m hown0.lt)
  have hmlt := hown0.lt
  have HRO := hid hr0
  clear htt hown0 hMI0 hr0
  go_enter Try.func52, Try.ntmps52
  go_wp2_with (first | (go_at_call 78; refine VR.out.mono ?_; rintro e w ⟨rfl, rfl⟩) | (go_at_call 76; refine HD.out.mono ?_; rintro e w' ⟨rfl, z1, rfl⟩) | (with_reducible refine wpl_max rfl _ _ rfl _ _ tt (by with_unfolding_all rfl) (by with_unfolding_all rfl) HTT.out ?_) | (at_range; refine wpList_range_own _ rfl _ 109 rfl 113 3 law113 Try.underlying109 _ M.m _ D0 rfl (hown1 _) ?_; intro w0 hrg0 hg0 hs0) | go_in)
  go_frame
  have hK0 : KeptL lab (fun x => x = 3) w w0 := (KeptL.of_below (World.below_ext w z1)).trans ⟨hg0.os, hg0.tape, hg0.output, hg0.size, fun k hk _ => hg0.block k hk (by simp)⟩
  have HK0 := hid hK0
  clear hK0 hg0
  obtain ⟨it, hit⟩ : ∃ n, (w.ext z1).heap.size = n := ⟨_, rfl⟩
  rw [hit] at hrg0 ⊢
  have hit2 : w.heap.size ≤ it := by rw [← hit, World.size_ext]; omega
  clear hown1 hit
  go_loopw [] (fun wr => ∃ (left : Lit → Bool) (cnt : Nat) (D : DataW Unit) (f : Int → Int → Option Int), wr.ranges Try.prog 113 (plainElem Try.prog 3) M.m it (Maps.size D0) D left cnt ∧ MIs D f ∧ (∀ a b, f a b = T.tm a b ∨ (f a b = none ∧ a = r ∧ (tt : Int) ≤ b)) ∧ (∀ b x, f r b = some x → (tt : Int) ≤ b → left (key2 r b) = true) ∧ KeptL lab (fun x => x = 3) w wr)
    (fun wr => wr.rangeLeft M.m it)
  case atStart =>
    refine ⟨_, _, D0, T.tm, hrg0, HMI0.out, fun a b => Or.inl rfl, fun b x h1 _ => ?_, HK0.out⟩
    have i1 := HMI0.out.i64 h1
    rw [HMI0.out.has r b i1.1 i1.2.1, h1]; rfl
  case round =>
    obtain ⟨left, cnt, D, f, hrg, hMI, hf, hl, hK⟩ := hrel
    have HMI := hid hMI
    have HF := hid hf
    have HL := hid hl
    have HK := hid hK
    have c4' : wr.cell? ⟨M.t, 4, none⟩ = some (.map (some M.m)) := (hK.cell 4 hlt (by rw [HH.out.lt]; omega)).trans c4
    have hsz := hK.size
    clear hMI hf hl hK
    go_wp2_with (first | (at_next; refine wpList_next_tm _ rfl _ rfl M.m it _ _ f _ _ rfl hrg HMI ?_ ?_) | go_in)
    · intro hc0 hl0
      have hfe : f = cutM T.tm r tt := by
        funext a b
        unfold cutM
        rcases HF.out a b with h1 | ⟨h1, h2, h3⟩
        · split
          · rename_i e
            cases hx : f a b with
            | none => rfl
            | some x =>
              have := HL.out b x (by rw [← e.1]; exact hx) e.2
              rw [hl0] at this
              cases this
          · exact h1
        · rw [if_pos ⟨h2, h3⟩]; exact h1
      subst hfe
      have hA : TAt wr lab M { T with tm := cutM T.tm r tt } := by
        refine HH.out.setMK HK.out ⟨D, own_tight hrg.owns, HMI.out⟩ ?_
        have h1 := cntM_le (f := cutM T.tm r tt) (g := T.tm) (fun a b h => by
          unfold cutM at h
          split at h
          · cases h
          · exact h)
        have := HH.out.bd.held
        unfold TS.held at this
        omega
      have HA := hid hA
      obtain ⟨ao, cap, hv⟩ := hA.bs.val
      have c5A := hA.c5
      have hltA := hA.bt.lt
      have hln := hA.ln
      have fzA := hA.bt.fz 5 (by omega)
      rw [hv] at c5A
      have HV := hid hv
      obtain ⟨n, hn⟩ : ∃ n, T.sp.length = n := ⟨_, rfl⟩
      simp only at c5A hln HV
      rw [hn] at c5A hln HV
      have HN := hid hn
      obtain ⟨rr, hrr⟩ : ∃ m : Nat, r = m := ⟨r.toNat, by have := HRO.out; unfold TS.rOk at this; simp at this; omega⟩
      have HRR := hid hrr
      clear hl0 hc0 hrg hA hv hn HL HF HMI hrr c4'
      obtain ⟨wA, hwA⟩ : ∃ x, x = wr := ⟨_, rfl⟩
      subst hwA
      go_wp2
      go_loopw [10, 54] (fun v x wr2 => ∃ (k : Nat) (kept : List Sg) (lab2 : Nat → Nat), x = .int .i64 (k) ∧ k ≤ n ∧ LAt wr2 lab2 4 4 v kept.length (srow kept) ∧ kept ++ cutS rr tt (T.sp.drop k) = cutS rr tt T.sp ∧ (∀ b, b < wA.heap.size → lab2 b = 0) ∧ Below wA.heap.size wA wr2) (fun _ x _ => n - (intOf x).toNat)
      case atStart => exact ⟨0, [], fun _ => 0, rfl, Nat.zero_le _, LAt.nil _ _ _ _, rfl, fun _ _ => rfl, Below.rf _⟩
      case round =>
        obtain ⟨k, kept, lab2, rfl, hk, hls, heq, hlab2, hB⟩ := hrel
        have HB := hid hB
        have HLS := hid hls
        have HL2 := hid hlab2
        have hsz2 := hB.size
        obtain ⟨ao2, cp2, rfl⟩ := hls.val
        have hkl : kept.length ≤ 2000 := by
          have h1 := congrArg List.length heq
          rw [List.length_append] at h1
          have h2 := cutS_len rr tt T.sp
          rw [HN.out] at h2
          omega
        by_cases hlt2 : k < n
        · have hkl2 : k < T.sp.length := by rw [HN.out]; exact hlt2
          have hx : T.sp[k]? = some T.sp[k] := List.getElem?_eq_getElem hkl2
          have hdr : T.sp.drop k = T.sp[k] :: T.sp.drop (k + 1) := List.drop_eq_getElem_cons hkl2
          generalize T.sp[k] = x at *
          obtain ⟨b, cap', hv, hlc, hbl, q1, q2, q3, q4⟩ := (HA.out.below hB).span k x hx
          simp only at hv hlc
          rw [HV.out, HN.out] at hv
          simp only [Value.slice.injEq] at hv
          obtain ⟨rfl, -, rfl⟩ := hv
          rw [HN.out] at hlc
          have hbd := HH.out.bd.sp x (List.mem_of_getElem? hx)
          have bk : decide ((k : Int) < n) = true := by simp; omega
          rw [hdr, cutS] at heq
          by_cases e1 : x.r = rr
          · have d1 : ((x.r : Int) == r) = true := by rw [HRR.out]; simp [e1]
            have hcut : x.cut rr tt = { x with u := min x.u tt } := by unfold Sg.cut; rw [if_pos e1]
            rw [hcut] at heq
            have HMN : Hid (min (x.u : Int) (tt : Int) = ((min x.u tt : Nat) : Int)) := by unfold Hid; omega
            obtain ⟨u', hu'⟩ : ∃ u', min x.u tt = u' := ⟨_, rfl⟩
            rw [hu'] at heq HMN
            have hub : u' ≤ 1099511627776 := by omega
            clear hB hdr hx hls hlab2 hcut hu' e1
            by_cases hfu : x.f < u'
            · rw [if_pos hfu] at heq
              have HE : Hid (kept ++ ([{ x with u := u' }] ++ cutS rr tt (T.sp.drop (k + 1))) = cutS rr tt T.sp) := heq
              clear heq
              go_wp2_with (first | (with_reducible refine wpl_min rfl _ _ rfl _ _ u' (by with_unfolding_all rfl) (by with_unfolding_all rfl) HMN.out ?_) | (at_builtin; refine hold ?_))
              unfold Hid
              refine wpl_ls rfl _ _ 110 115 (.agg #[.int .i64 (0), .int .i64 (0), .int .i64 (0), .int .i64 (0)]) 4 32 rfl Try.underlying110 (by kernel_rfl) rfl (by decide) lab2 4 _ kept.length (srow kept) rfl (HLS.out.below (by (repeat (first | with_reducible exact Below.rf _ | with_reducible exact World.below_ext _ _ | with_reducible refine Below.ex ?_ _ | with_reducible refine Below.al ?_ _ | with_reducible refine Below.setCell ?_ (by simp) _ | with_reducible refine Below.drew ?_)))) _ 1 1 (srow [({ x with u := u' } : Sg)]) (by decide) (by omega) (by omega) rfl rfl ?_ ?_ ?_
              · intro j u hj
                have hj2 := (List.getElem?_eq_some_iff.1 hj).1
                simp [srow] at hj2
                rcases (by omega : j = 0 ∨ j = 1 ∨ j = 2 ∨ j = 3) with rfl | rfl | rfl | rfl <;> simp [srow] at hj <;> subst hj <;> simp [go_sem, ↓IntWalk.iteOmega]
              · simp [srow, Value.oneCell']
              intro v5 w5 lab5 hls5 hlab5 hk5
              have hsz5 := hk5.size
              simp only [World.size_alloc, World.size_ext] at hsz5
              have HLS5 := hid hls5
              have HLAB5 := hid hlab5
              have HK5 := hid hk5
              clear hls5 hlab5 hk5
              go_wp2
              go_roundw
              case rel =>
                refine ⟨k + 1, kept ++ [({ x with u := u' } : Sg)], lab5, by go_num, by omega, by rw [srow_app, List.length_append]; exact HLS5.out, by rw [List.append_assoc]; exact HE.out, fun b hb => (HLAB5.out b (by simp only [World.size_alloc]; omega)).trans (HL2.out b hb), ?_⟩
                refine below_of_keptL (HB.out.trans (Below.mono ?_ HB.out.size)) HK5.out HL2.out
                (repeat (first | with_reducible exact Below.rf _ | with_reducible exact World.below_ext _ _ | with_reducible refine Below.ex ?_ _ | with_reducible refine Below.al ?_ _ | with_reducible refine Below.setCell ?_ (by simp) _ | with_reducible refine Below.drew ?_))
              case measure => simp [intOf]; omega
            · rw [if_neg hfu] at heq
              have HE := hid heq
              clear heq
              go_wp2_with (first | (with_reducible refine wpl_min rfl _ _ rfl _ _ u' (by with_unfolding_all rfl) (by with_unfolding_all rfl) HMN.out ?_))
              go_roundw
              case rel =>
                refine ⟨k + 1, kept, lab2, by go_num, by omega, HLS.out.below (by (repeat (first | with_reducible exact Below.rf _ | with_reducible exact World.below_ext _ _ | with_reducible refine Below.ex ?_ _ | with_reducible refine Below.al ?_ _ | with_reducible refine Below.setCell ?_ (by simp) _ | with_reducible refine Below.drew ?_))), HE.out, HL2.out, ?_⟩
                refine HB.out.trans (Below.mono ?_ HB.out.size)
                (repeat (first | with_reducible exact Below.rf _ | with_reducible exact World.below_ext _ _ | with_reducible refine Below.ex ?_ _ | with_reducible refine Below.al ?_ _ | with_reducible refine Below.setCell ?_ (by simp) _ | with_reducible refine Below.drew ?_))
              case measure => simp [intOf]; omega
          · have d1 : ((x.r : Int) == r) = false := by rw [HRR.out]; simp; omega
            have hcut : x.cut rr tt = x := by unfold Sg.cut; rw [if_neg e1]
            rw [hcut] at heq
            clear hB hdr hx hls hlab2 hcut e1
            by_cases hfu : x.f < x.u
            · rw [if_pos hfu] at heq
              have HE : Hid (kept ++ ([x] ++ cutS rr tt (T.sp.drop (k + 1))) = cutS rr tt T.sp) := heq
              clear heq
              go_wp2_with (first | (at_builtin; refine hold ?_))
              unfold Hid
              refine wpl_ls rfl _ _ 110 115 (.agg #[.int .i64 (0), .int .i64 (0), .int .i64 (0), .int .i64 (0)]) 4 32 rfl Try.underlying110 (by kernel_rfl) rfl (by decide) lab2 4 _ kept.length (srow kept) rfl (HLS.out.below (by (repeat (first | with_reducible exact Below.rf _ | with_reducible exact World.below_ext _ _ | with_reducible refine Below.ex ?_ _ | with_reducible refine Below.al ?_ _ | with_reducible refine Below.setCell ?_ (by simp) _ | with_reducible refine Below.drew ?_)))) _ 1 1 (srow [x]) (by decide) (by omega) (by omega) rfl rfl ?_ ?_ ?_
              · intro j u hj
                have hj2 := (List.getElem?_eq_some_iff.1 hj).1
                simp [srow] at hj2
                rcases (by omega : j = 0 ∨ j = 1 ∨ j = 2 ∨ j = 3) with rfl | rfl | rfl | rfl <;> simp [srow] at hj <;> subst hj <;> simp [go_sem, ↓IntWalk.iteOmega]
              · simp [srow, Value.oneCell']
              intro v5 w5 lab5 hls5 hlab5 hk5
              have hsz5 := hk5.size
              simp only [World.size_alloc, World.size_ext] at hsz5
              have HLS5 := hid hls5
              have HLAB5 := hid hlab5
              have HK5 := hid hk5
              clear hls5 hlab5 hk5
              go_wp2
              go_roundw
              case rel =>
                refine ⟨k + 1, kept ++ [x], lab5, by go_num, by omega, by rw [srow_app, List.length_append]; exact HLS5.out, by rw [List.append_assoc]; exact HE.out, fun b hb => (HLAB5.out b (by simp only [World.size_alloc]; omega)).trans (HL2.out b hb), ?_⟩
                refine below_of_keptL (HB.out.trans (Below.mono ?_ HB.out.size)) HK5.out HL2.out
                (repeat (first | with_reducible exact Below.rf _ | with_reducible exact World.below_ext _ _ | with_reducible refine Below.ex ?_ _ | with_reducible refine Below.al ?_ _ | with_reducible refine Below.setCell ?_ (by simp) _ | with_reducible refine Below.drew ?_))
              case measure => simp [intOf]; omega
            · rw [if_neg hfu] at heq
              have HE := hid heq
              clear heq
              go_wp2
              go_roundw
              case rel =>
                refine ⟨k + 1, kept, lab2, by go_num, by omega, HLS.out.below (by (repeat (first | with_reducible exact Below.rf _ | with_reducible exact World.below_ext _ _ | with_reducible refine Below.ex ?_ _ | with_reducible refine Below.al ?_ _ | with_reducible refine Below.setCell ?_ (by simp) _ | with_reducible refine Below.drew ?_))), HE.out, HL2.out, ?_⟩
                refine HB.out.trans (Below.mono ?_ HB.out.size)
                (repeat (first | with_reducible exact Below.rf _ | with_reducible exact World.below_ext _ _ | with_reducible refine Below.ex ?_ _ | with_reducible refine Below.al ?_ _ | with_reducible refine Below.setCell ?_ (by simp) _ | with_reducible refine Below.drew ?_))
              case measure => simp [intOf]; omega
        · rw [List.drop_eq_nil_of_le (by rw [HN.out]; omega), cutS, List.append_nil] at heq
          subst heq
          have hk2 : KeptL lab tabL w wA := HK.out.mono (B := tabL) (fun x hx => Or.inr (Or.inl hx))
          have hT2 : TAt (wr.setCell ⟨M.t, 5, none⟩ (.slice ao2 (cutS rr tt T.sp).length cp2)) (fun b => if b < wA.heap.size then lab b else 4) { M with sv := .slice ao2 (cutS rr tt T.sp).length cp2 } T' := by
            have := HA.out.setS (lab' := fun b => if b < wA.heap.size then lab b else 4) (KeptL.of_below hB) (fun b hb => if_pos hb) (v := .slice ao2 (cutS rr tt T.sp).length cp2) (l := cutS rr tt T.sp) ?_ (cutS_bd _ HH.out.bd.sp) ?_
            · rw [← HT'.out, HRR.out, Int.toNat_natCast]
              rw [HRR.out] at this
              exact this
            · obtain ⟨ao3, cp3, q1, q2, q3⟩ := hls.ex
              refine ⟨hls.len, ao3, cp3, q1, q2, ?_⟩
              rcases q3 with q3 | ⟨b, e, hl, hp⟩
              · exact Or.inl q3
              · refine Or.inr ⟨b, e, ⟨?_, hl.2⟩, hp⟩
                rw [if_neg]
                intro hb
                have := hlab2 b hb
                omega
            · have h1 := cutS_len rr tt T.sp
              have := HA.out.bd.held
              unfold TS.held at this
              simp only at this ⊢
              omega
          have HT2 := hid hT2
          have c52 : wr.cell? ⟨M.t, 5, none⟩ = some (.slice ao n cap) := (World.cell?_of_block (hB.block M.t hltA)).trans c5A
          have fz2 : wr.frozen? ⟨M.t, 5, none⟩ = false := (World.frozen?_of_block (hB.block M.t hltA)).trans fzA
          have hlt2' : M.t < wr.heap.size := by omega
          have HK2 : Hid (KeptL lab tabL w (wr.setCell ⟨M.t, 5, none⟩ (.slice ao2 (cutS rr tt T.sp).length cp2))) := (hk2.trans (KeptL.of_below hB)).set (Or.inl HH.out.lt) _
          clear hT2 hk2 hB hls hlab2
          go_wp2_with (first | (go_at_call 76; refine hold ?_))
          unfold Hid
          generalize wr.setCell ⟨M.t, 5, none⟩ (.slice ao2 (cutS rr tt T.sp).length cp2) = w4 at *
          have HE : Hid (Calls Try.prog 76 #[.pointer (some ⟨M.t, 0, none⟩)] w4 fun e w' => e = .returned (.int .i64 (T'.held)) ∧ ∃ y, w' = w4.ext y) := held_any { M with sv := .slice ao2 (cutS rr tt T.sp).length cp2 } _ _ w4 HT2.out
          have hTb := HT2.out.bd.held
          obtain ⟨hd2, hhd2⟩ : ∃ n, T'.held = n := ⟨_, rfl⟩
          rw [hhd2] at HE hTb
          have HD2 := hid hhd2
          have hlt4 : M.t < w4.heap.size := HT2.out.bt.lt
          clear hhd2
          go_wp2_with (first | (go_at_call 76; refine HE.out.mono ?_; rintro e w' ⟨rfl, z4, rfl⟩))
          go_ret2
          rw [HD2.out]
          exact ⟨_, _, rfl, HT2.out.ex _, rfl, rfl, fun k hk => if_pos (by omega), HK2.out.ex _⟩
    · intro a b x w1 cnt1 ia ib htm hleft hrg1 hlt1 hg1 hs1 hen
      have HI := hid (And.intro ia ib)
      have hK1 : KeptL lab (fun x => x = 3) w w1 := ⟨hg1.os.trans HK.out.os, hg1.tape.trans HK.out.tape, hg1.output.trans HK.out.output, Nat.le_trans HK.out.size hg1.size, fun k hk hn => (hg1.block k (Nat.lt_of_lt_of_le hk HK.out.size) (by simp; omega)).trans (HK.out.block k hk hn)⟩
      have HK1 := hid hK1
      have HTM := hid htm
      have c41 : w1.cell? ⟨M.t, 4, none⟩ = some (.map (some M.m)) := (hK1.cell 4 hlt (by rw [HH.out.lt]; omega)).trans c4
      have hsz1 := hK1.size
      clear hK1 hleft htm ia ib hg1
      by_cases e1 : a = r
      · have d1 : (a == r) = true := by simp [e1]
        by_cases e2 : (tt : Int) ≤ b
        · subst e1
          go_wp2
          first | with_reducible refine wp_region_tail_ext2 5 (by kernel_rfl) (by kernel_rfl) ?_ | refine wp_region_tail_ext 5 (by kernel_rfl) (by kernel_rfl) ?_
          simp only [List.take_succ_cons, List.take_zero, List.drop_succ_cons, List.drop_zero]
          repeat (go_big_quiet_step (fail))
          refine wpQuiet_nil ?_
          rintro _ ⟨z, rfl⟩
          go_wp2_with (first | (at_delete; refine wpList_delete_ranges _ rfl _ _ 109 113 rfl 3 law113 Try.underlying109 _ M.m it _ _ _ _ rfl (ranges_below hrg1 (by (repeat (first | with_reducible exact Below.rf _ | with_reducible exact World.below_ext _ _ | with_reducible refine Below.ex ?_ _ | with_reducible refine Below.al ?_ _ | with_reducible refine Below.setCell ?_ (by simp) _ | with_reducible refine Below.drew ?_)))) _ _ rfl (key2_of HI.out.1 HI.out.2) ?_; intro w2 cnt2 hrg2 hle2 hturn2; go_frame) | go_in)
          rw [strike_twice] at hrg2
          go_roundw
          case rel =>
            refine ⟨_, cnt2, _, _, hrg2, HMI.out.del (hrg.owns.tidy law113) HI.out.1 HI.out.2, fun a' b' => ?_, fun b' x' h1 h2 => ?_, ?_⟩
            · unfold delM
              split
              · rename_i e
                exact Or.inr ⟨rfl, e.1, by rw [e.2]; exact e2⟩
              · exact HF.out a' b'
            · unfold delM at h1
              split at h1
              · cases h1
              · rename_i e
                have h4 := HL.out b' x' h1 h2
                have i1 := HMI.out.i64 h1
                rw [h4, Maps.sameKey_ne (fun e' => e (key2_inj i1.1 i1.2.1 HI.out.1 HI.out.2 e'))]
                rfl
            · exact (((HK1.out.al _).ex _)).trans (KeptL.of_turned hturn2 HH.out.lm)
          case measure => rw [hrg2.left_eq, hrg.left_eq]; omega
        · have HNO : Hid (∀ {b' : Int}, r = a ∧ b' = b → (tt : Int) ≤ b' → False) := fun h1 h2 => by omega
          clear e1
          go_wp2
          go_roundw
          case rel =>
            refine ⟨_, cnt1, D, f, ranges_below hrg1 ((Below.rf _).al _), HMI.out, HF.out, fun b' x' h1 h2 => ?_, HK1.out.al _⟩
            have h4 := HL.out b' x' h1 h2
            have i1 := HMI.out.i64 h1
            rw [h4, Maps.sameKey_ne (fun e => HNO.out (key2_inj i1.1 i1.2.1 HI.out.1 HI.out.2 e) h2)]
            rfl
          case measure => rw [(ranges_below hrg1 ((Below.rf _).al _)).left_eq, hrg.left_eq]; omega
      · have HNO : Hid (∀ {b' : Int}, r = a ∧ b' = b → (tt : Int) ≤ b' → False) := fun h1 h2 => e1 h1.1.symm
        have d1 : (a == r) = false := by simp [e1]
        clear e1
        go_wp2
        go_roundw
        case rel =>
          refine ⟨_, cnt1, D, f, ranges_below hrg1 ((Below.rf _).al _), HMI.out, HF.out, fun b' x' h1 h2 => ?_, HK1.out.al _⟩
          have h4 := HL.out b' x' h1 h2
          have i1 := HMI.out.i64 h1
          rw [h4, Maps.sameKey_ne (fun e => HNO.out (key2_inj i1.1 i1.2.1 HI.out.1 HI.out.2 e) h2)]
          rfl
        case measure => rw [(ranges_below hrg1 ((Below.rf _).al _)).left_eq, hrg.left_eq]; omega
end Go.Proofs.Qxb6500716a
