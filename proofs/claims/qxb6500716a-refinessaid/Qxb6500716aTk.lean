/-
  Advance: the walk.
-/
import Derived.Test.Qxb6500716aTj
namespace Go.Proofs.Qxb6500716a
open Go.RowKit Go.Maps
set_option linter.unusedSimpArgs false
set_option linter.unusedVariables false
set_option maxRecDepth 20000
set_option maxHeartbeats 4000000

def advM (f : Int → Int → Option Int) (t : Int) : Int → Int → Option Int := fun a b => if b < t then none else f a b
def Sg.adv (x : Sg) (t : Nat) : Sg := { x with f := max x.f t }
def advS (t : Nat) : List Sg → List Sg
  | [] => []
  | x :: l => if (x.adv t).f < (x.adv t).u then x.adv t :: advS t l else advS t l
theorem advS_len (t : Nat) : ∀ l, (advS t l).length ≤ l.length := by
  intro l
  induction l with
  | nil => simp [advS]
  | cons x l ih => unfold advS; split <;> simp <;> omega
theorem advS_bd {nc t : Nat} (ht : t ≤ 1073741824) : ∀ l : List Sg, (∀ x, x ∈ l → x.r < 6 ∧ x.c < nc ∧ x.f ≤ 2000000000 ∧ x.u ≤ 1099511627776) → ∀ x, x ∈ advS t l → x.r < 6 ∧ x.c < nc ∧ x.f ≤ 2000000000 ∧ x.u ≤ 1099511627776 := by
  intro l
  induction l with
  | nil => intro _ x hx; simp [advS] at hx
  | cons y l ih =>
    intro h x hx
    unfold advS at hx
    split at hx
    · simp at hx
      rcases hx with rfl | hx
      · have := h y (by simp)
        exact ⟨this.1, this.2.1, by unfold Sg.adv; simp only; omega, this.2.2.2⟩
      · exact ih (fun z hz => h z (by simp [hz])) x hx
    · exact ih (fun z hz => h z (by simp [hz])) x hx
def TS.advT (T : TS) (t : Nat) : TS := { T with base := t, tm := advM T.tm t, sp := advS t T.sp }
def TS.adv (T : TS) (t : Int) : Int × TS := if t < (T.base : Int) then (2, T) else if t > 1073741824 then (3, T) else (0, T.advT t.toNat)

theorem TAt.setB {w : World} {lab : Nat → Nat} {M : TM} {T : TS} (h : TAt w lab M T) (n : Nat) (hn : n ≤ 1073741824) : TAt (w.setCell ⟨M.t, 3, none⟩ (.int .i64 (n))) lab M { T with base := n } := by
  have hk : KeptL lab (fun x => x = 2) w (w.setCell ⟨M.t, 3, none⟩ (.int .i64 (n))) := (KeptL.refl lab _ w).set h.lt _
  refine ⟨{ h.bd with base := hn }, ?_, h.bm.keptL hk (by rw [h.lm]; omega), h.bs.keptL hk (by omega), h.lt, h.lm⟩
  refine (h.bt.set 3 _ (by omega)).congr (fun i hi => ?_)
  rcases (by omega : i = 0 ∨ i = 1 ∨ i = 2 ∨ i = 3 ∨ i = 4 ∨ i = 5) with rfl | rfl | rfl | rfl | rfl | rfl <;> rfl

theorem adv_any (M : TM) (T : TS) (lab : Nat → Nat) (t : Int) (w : World) (h : TAt w lab M T) :
    Calls Try.prog 50 #[.pointer (some ⟨M.t, 0, none⟩), .int .i64 (t)] w (tabPost lab M (.int .i64 ((T.adv t).1)) (T.adv t).2 w) := by
  have HH0 := hid h
  have hlt := h.bt.lt
  have c3 := h.c3
  have hbb := h.bd.base
  have fz3 := h.bt.fz 3 (by omega)
  unfold TS.adv
  by_cases h1 : t < (T.base : Int)
  · rw [if_pos h1]
    clear h
    go_enter Try.func50, Try.ntmps50
    go_wp2
    go_ret
    exact ⟨lab, M, rfl, HH0.out, rfl, rfl, fun _ _ => rfl, KeptL.refl _ _ _⟩
  rw [if_neg h1]
  by_cases h2 : t > 1073741824
  · rw [if_pos h2]
    clear h
    go_enter Try.func50, Try.ntmps50
    go_wp2
    go_ret
    exact ⟨lab, M, rfl, HH0.out, rfl, rfl, fun _ _ => rfl, KeptL.refl _ _ _⟩
  rw [if_neg h2]
  obtain ⟨tt, rfl⟩ : ∃ n : Nat, t = n := ⟨t.toNat, by omega⟩
  rw [Int.toNat_natCast]
  obtain ⟨T', hT'⟩ : ∃ x : TS, T.advT tt = x := ⟨_, rfl⟩
  rw [hT']
  have HT' := hid hT'
  have HH : Hid (TAt (w.setCell ⟨M.t, 3, none⟩ (.int .i64 (tt))) lab M { T with base := tt }) := h.setB tt (by omega)
  have HKB : Hid (KeptL lab tabL w (w.setCell ⟨M.t, 3, none⟩ (.int .i64 (tt)))) := (KeptL.refl lab tabL w).set (Or.inl h.lt) _
  have c4 := HH.out.c4
  have htb : tt ≤ 1073741824 := by omega
  obtain ⟨D0, hown1, hMI0⟩ := HH.out.bm
  have HMI0 := hid hMI0
  clear hT' h hMI0
  go_enter Try.func50, Try.ntmps50
  go_wp2_with (first | (at_range; refine hold ?_) | go_in)
  unfold Hid
  generalize w.setCell ⟨M.t, 3, none⟩ (.int .i64 (tt)) = wB at *
  have hltB : M.t < wB.heap.size := HH.out.bt.lt
  refine wpList_range_own _ rfl _ 109 rfl 113 3 law113 Try.underlying109 _ M.m _ D0 rfl hown1 ?_
  intro w0 hrg0 hg0 hs0
  go_wp2
  (try go_frame)
  have hK0 : KeptL lab (fun x => x = 3) wB w0 := ⟨hg0.os, hg0.tape, hg0.output, hg0.size, fun k hk _ => hg0.block k hk (by simp)⟩
  have HK0 := hid hK0
  clear hK0 hg0 hown1
  obtain ⟨it, hit⟩ : ∃ n, wB.heap.size = n := ⟨_, rfl⟩
  rw [hit] at hrg0 ⊢
  have hit2 : wB.heap.size ≤ it := by omega
  clear hit
  go_loopw [] (fun wr => ∃ (left : Lit → Bool) (cnt : Nat) (D : DataW Unit) (f : Int → Int → Option Int), wr.ranges Try.prog 113 (plainElem Try.prog 3) M.m it (Maps.size D0) D left cnt ∧ MIs D f ∧ (∀ a b, f a b = T.tm a b ∨ (f a b = none ∧ b < (tt : Int))) ∧ (∀ a b x, f a b = some x → b < (tt : Int) → left (key2 a b) = true) ∧ KeptL lab (fun x => x = 3) wB wr)
    (fun wr => wr.rangeLeft M.m it)
  case atStart =>
    refine ⟨_, _, D0, T.tm, hrg0, HMI0.out, fun a b => Or.inl rfl, fun a b x h1 _ => ?_, HK0.out⟩
    have i1 := HMI0.out.i64 h1
    have := HMI0.out.has a b i1.1 i1.2.1
    rw [this]
    rw [h1]; rfl
  case round =>
    obtain ⟨left, cnt, D, f, hrg, hMI, hf, hl, hK⟩ := hrel
    have HMI := hid hMI
    have HF := hid hf
    have HL := hid hl
    have HK := hid hK
    have c4' : wr.cell? ⟨M.t, 4, none⟩ = some (.map (some M.m)) := (hK.cell 4 hltB (by rw [HH.out.lt]; omega)).trans c4
    have hsz := hK.size
    clear hMI hf hl hK
    go_wp2_with (first | (at_next; refine wpList_next_tm _ rfl _ rfl M.m it _ _ f _ _ rfl hrg HMI ?_ ?_) | go_in)
    · intro hc0 hl0
      have hfe : f = advM T.tm tt := by
        funext a b
        unfold advM
        rcases HF.out a b with h1 | ⟨h1, h2⟩
        · split
          · rename_i e
            cases hx : f a b with
            | none => rfl
            | some x =>
              have := HL.out a b x hx e
              rw [hl0] at this
              cases this
          · exact h1
        · rw [if_pos h2]; exact h1
      subst hfe
      have hA : TAt wr lab M { T with base := tt, tm := advM T.tm tt } := by
        refine HH.out.setMK HK.out ⟨D, own_tight hrg.owns, HMI.out⟩ ?_
        have h1 := cntM_le (f := advM T.tm tt) (g := T.tm) (fun a b h => by
          unfold advM at h
          split at h
          · cases h
          · exact h)
        have := HH.out.bd.held
        unfold TS.held at this
        simp only at this ⊢
        omega
      have HA := hid hA
      obtain ⟨ao, cap, hv⟩ := hA.bs.val
      have c5A := hA.c5
      have hltA := hA.bt.lt
      have hln := hA.ln
      have fzA := hA.bt.fz 5 (by omega)
      rw [hv] at c5A
      have HV := hid hv
      obtain ⟨n, hn⟩ : ∃ n, T.sp.length = n := ⟨_, rfl⟩
      simp only at c5A hln HV
      rw [hn] at c5A hln HV
      have HN := hid hn
      clear hl0 hc0 hrg hA hv hn HL HF HMI c4'
      obtain ⟨wA, hwA⟩ : ∃ x, x = wr := ⟨_, rfl⟩
      subst hwA
      go_wp2
      go_loopw [6, 44] (fun v x wr2 => ∃ (k : Nat) (kept : List Sg) (lab2 : Nat → Nat), x = .int .i64 (k) ∧ k ≤ n ∧ LAt wr2 lab2 4 4 v kept.length (srow kept) ∧ kept ++ advS tt (T.sp.drop k) = advS tt T.sp ∧ (∀ b, b < wA.heap.size → lab2 b = 0) ∧ Below wA.heap.size wA wr2) (fun _ x _ => n - (intOf x).toNat)
      case atStart => exact ⟨0, [], fun _ => 0, rfl, Nat.zero_le _, LAt.nil _ _ _ _, rfl, fun _ _ => rfl, Below.rf _⟩
      case round =>
        obtain ⟨k, kept, lab2, rfl, hk, hls, heq, hlab2, hB⟩ := hrel
        have HB := hid hB
        have HLS := hid hls
        have HL2 := hid hlab2
        have hsz2 := hB.size
        obtain ⟨ao2, cp2, rfl⟩ := hls.val
        have hkl : kept.length ≤ 2000 := by
          have h1 := congrArg List.length heq
          rw [List.length_append] at h1
          have h2 := advS_len tt T.sp
          rw [HN.out] at h2
          omega
        by_cases hlt2 : k < n
        · have hkl2 : k < T.sp.length := by rw [HN.out]; exact hlt2
          have hx : T.sp[k]? = some T.sp[k] := List.getElem?_eq_getElem hkl2
          have hdr : T.sp.drop k = T.sp[k] :: T.sp.drop (k + 1) := List.drop_eq_getElem_cons hkl2
          generalize T.sp[k] = x at *
          obtain ⟨b, cap', hv, hlc, hbl, q1, q2, q3, q4⟩ := (HA.out.below hB).span k x hx
          simp only at hv hlc
          rw [HV.out, HN.out] at hv
          simp only [Value.slice.injEq] at hv
          obtain ⟨rfl, -, rfl⟩ := hv
          rw [HN.out] at hlc
          have hbd := HH.out.bd.sp x (List.mem_of_getElem? hx)
          have bk : decide ((k : Int) < n) = true := by simp; omega
          rw [hdr, advS] at heq
          have HMN : Hid (max (x.f : Int) (tt : Int) = ((max x.f tt : Nat) : Int)) := by unfold Hid; omega
          unfold Sg.adv at heq
          obtain ⟨u', hu'⟩ : ∃ u', max x.f tt = u' := ⟨_, rfl⟩
          rw [hu'] at heq HMN
          have hub : u' ≤ 2000000000 := by omega
          clear hB hdr hx hls hlab2 hu'
          by_cases hfu : u' < x.u
          · rw [if_pos hfu] at heq
            have HE : Hid (kept ++ ([{ x with f := u' }] ++ advS tt (T.sp.drop (k + 1))) = advS tt T.sp) := heq
            clear heq
            go_wp2_with (first | (with_reducible refine wpl_max rfl _ _ rfl _ _ u' (by with_unfolding_all rfl) (by with_unfolding_all rfl) HMN.out ?_) | (at_builtin; refine hold ?_))
            unfold Hid
            refine wpl_ls rfl _ _ 110 115 (.agg #[.int .i64 (0), .int .i64 (0), .int .i64 (0), .int .i64 (0)]) 4 32 rfl Try.underlying110 (by kernel_rfl) rfl (by decide) lab2 4 _ kept.length (srow kept) rfl (HLS.out.below (by (repeat (first | with_reducible exact Below.rf _ | with_reducible exact World.below_ext _ _ | with_reducible refine Below.ex ?_ _ | with_reducible refine Below.al ?_ _ | with_reducible refine Below.setCell ?_ (by simp) _ | with_reducible refine Below.drew ?_)))) _ 1 1 (srow [({ x with f := u' } : Sg)]) (by decide) (by omega) (by omega) rfl rfl ?_ ?_ ?_
            · intro j u hj
              have hj2 := (List.getElem?_eq_some_iff.1 hj).1
              simp [srow] at hj2
              rcases (by omega : j = 0 ∨ j = 1 ∨ j = 2 ∨ j = 3) with rfl | rfl | rfl | rfl <;> simp [srow] at hj <;> subst hj <;> simp [go_sem, ↓IntWalk.iteOmega]
            · simp [srow, Value.oneCell']
            intro v5 w5 lab5 hls5 hlab5 hk5
            have hsz5 := hk5.size
            simp only [World.size_alloc, World.size_ext] at hsz5
            have HLS5 := hid hls5
            have HLAB5 := hid hlab5
            have HK5 := hid hk5
            clear hls5 hlab5 hk5
            go_wp2
            go_roundw
            case rel =>
              refine ⟨k + 1, kept ++ [({ x with f := u' } : Sg)], lab5, by go_num, by omega, by rw [srow_app, List.length_append]; exact HLS5.out, by rw [List.append_assoc]; exact HE.out, fun b hb => (HLAB5.out b (by simp only [World.size_alloc]; omega)).trans (HL2.out b hb), ?_⟩
              refine below_of_keptL (HB.out.trans (Below.mono ?_ HB.out.size)) HK5.out HL2.out
              (repeat (first | with_reducible exact Below.rf _ | with_reducible exact World.below_ext _ _ | with_reducible refine Below.ex ?_ _ | with_reducible refine Below.al ?_ _ | with_reducible refine Below.setCell ?_ (by simp) _ | with_reducible refine Below.drew ?_))
            case measure => simp [intOf]; omega
          · rw [if_neg hfu] at heq
            have HE := hid heq
            clear heq
            go_wp2_with (first | (with_reducible refine wpl_max rfl _ _ rfl _ _ u' (by with_unfolding_all rfl) (by with_unfolding_all rfl) HMN.out ?_))
            go_roundw
            case rel =>
              refine ⟨k + 1, kept, lab2, by go_num, by omega, HLS.out.below (by (repeat (first | with_reducible exact Below.rf _ | with_reducible exact World.below_ext _ _ | with_reducible refine Below.ex ?_ _ | with_reducible refine Below.al ?_ _ | with_reducible refine Below.setCell ?_ (by simp) _ | with_reducible refine Below.drew ?_))), HE.out, HL2.out, ?_⟩
              refine HB.out.trans (Below.mono ?_ HB.out.size)
              (repeat (first | with_reducible exact Below.rf _ | with_reducible exact World.below_ext _ _ | with_reducible refine Below.ex ?_ _ | with_reducible refine Below.al ?_ _ | with_reducible refine Below.setCell ?_ (by simp) _ | with_reducible refine Below.drew ?_))
            case measure => simp [intOf]; omega
        · rw [List.drop_eq_nil_of_le (by rw [HN.out]; omega), advS, List.append_nil] at heq
          subst heq
          have hk2 : KeptL lab tabL w wA := HKB.out.trans (HK.out.mono (B := tabL) (fun x hx => Or.inr (Or.inl hx)))
          have hT2 : TAt (wr.setCell ⟨M.t, 5, none⟩ (.slice ao2 (advS tt T.sp).length cp2)) (fun b => if b < wA.heap.size then lab b else 4) { M with sv := .slice ao2 (advS tt T.sp).length cp2 } T' := by
            have := HA.out.setS (lab' := fun b => if b < wA.heap.size then lab b else 4) (KeptL.of_below hB) (fun b hb => if_pos hb) (v := .slice ao2 (advS tt T.sp).length cp2) (l := advS tt T.sp) ?_ (advS_bd htb _ HH.out.bd.sp) ?_
            · rw [← HT'.out]
              exact this
            · obtain ⟨ao3, cp3, q1, q2, q3⟩ := hls.ex
              refine ⟨hls.len, ao3, cp3, q1, q2, ?_⟩
              rcases q3 with q3 | ⟨b, e, hl, hp⟩
              · exact Or.inl q3
              · refine Or.inr ⟨b, e, ⟨?_, hl.2⟩, hp⟩
                rw [if_neg]
                intro hb
                have := hlab2 b hb
                omega
            · have h1 := advS_len tt T.sp
              have := HA.out.bd.held
              unfold TS.held at this
              simp only at this ⊢
              omega
          have HT2 := hid hT2
          have c52 : wr.cell? ⟨M.t, 5, none⟩ = some (.slice ao n cap) := (World.cell?_of_block (hB.block M.t hltA)).trans c5A
          have fz2 : wr.frozen? ⟨M.t, 5, none⟩ = false := (World.frozen?_of_block (hB.block M.t hltA)).trans fzA
          have hlt2' : M.t < wr.heap.size := by omega
          have HK2 : Hid (KeptL lab tabL w (wr.setCell ⟨M.t, 5, none⟩ (.slice ao2 (advS tt T.sp).length cp2))) := (hk2.trans (KeptL.of_below hB)).set (Or.inl HH.out.lt) _
          clear hT2 hk2 hB hls hlab2
          go_wp2
          go_ret
          exact ⟨_, _, rfl, HT2.out, rfl, rfl, fun k hk => if_pos (by have := HKB.out.size; omega), HK2.out⟩
    · intro a b x w1 cnt1 ia ib htm hleft hrg1 hlt1 hg1 hs1 hen
      have HI := hid (And.intro ia ib)
      have hK1 : KeptL lab (fun x => x = 3) wB w1 := ⟨hg1.os.trans HK.out.os, hg1.tape.trans HK.out.tape, hg1.output.trans HK.out.output, Nat.le_trans HK.out.size hg1.size, fun k hk hn => (hg1.block k (Nat.lt_of_lt_of_le hk HK.out.size) (by simp; omega)).trans (HK.out.block k hk hn)⟩
      have HK1 := hid hK1
      have c41 : w1.cell? ⟨M.t, 4, none⟩ = some (.map (some M.m)) := (hK1.cell 4 hltB (by rw [HH.out.lt]; omega)).trans c4
      have hsz1 := hK1.size
      clear hK1 hleft htm ia ib hg1
      by_cases e2 : b < (tt : Int)
      · go_wp2
        first | with_reducible refine wp_region_tail_ext2 5 (by kernel_rfl) (by kernel_rfl) ?_ | refine wp_region_tail_ext 5 (by kernel_rfl) (by kernel_rfl) ?_
        simp only [List.take_succ_cons, List.take_zero, List.drop_succ_cons, List.drop_zero]
        repeat (go_big_quiet_step (fail))
        refine wpQuiet_nil ?_
        rintro _ ⟨z, rfl⟩
        go_wp2_with (first | (at_delete; refine wpList_delete_ranges _ rfl _ _ 109 113 rfl 3 law113 Try.underlying109 _ M.m it _ _ _ _ rfl (ranges_below hrg1 (by (repeat (first | with_reducible exact Below.rf _ | with_reducible exact World.below_ext _ _ | with_reducible refine Below.ex ?_ _ | with_reducible refine Below.al ?_ _ | with_reducible refine Below.setCell ?_ (by simp) _ | with_reducible refine Below.drew ?_)))) _ _ rfl (key2_of HI.out.1 HI.out.2) ?_; intro w2 cnt2 hrg2 hle2 hturn2; go_frame) | go_in)
        rw [strike_twice] at hrg2
        go_roundw
        case rel =>
          refine ⟨_, cnt2, _, _, hrg2, HMI.out.del (hrg.owns.tidy law113) HI.out.1 HI.out.2, fun a' b' => ?_, fun a' b' x' h1 h2 => ?_, ?_⟩
          · unfold delM
            split
            · rename_i e
              exact Or.inr ⟨rfl, by rw [e.2]; exact e2⟩
            · exact HF.out a' b'
          · unfold delM at h1
            split at h1
            · cases h1
            · rename_i e
              have h4 := HL.out a' b' x' h1 h2
              have i1 := HMI.out.i64 h1
              rw [h4, Maps.sameKey_ne (fun e' => e (key2_inj i1.1 i1.2.1 HI.out.1 HI.out.2 e'))]
              rfl
          · exact (((HK1.out.al _).ex _)).trans (KeptL.of_turned hturn2 HH.out.lm)
        case measure => rw [hrg2.left_eq, hrg.left_eq]; omega
      · go_wp2
        go_roundw
        case rel =>
          refine ⟨_, cnt1, D, f, ranges_below hrg1 ((Below.rf _).al _), HMI.out, HF.out, fun a' b' x' h1 h2 => ?_, HK1.out.al _⟩
          have h4 := HL.out a' b' x' h1 h2
          have i1 := HMI.out.i64 h1
          rw [h4, Maps.sameKey_ne (fun e => by have := (key2_inj i1.1 i1.2.1 HI.out.1 HI.out.2 e).2; omega)]
          rfl
        case measure => rw [(ranges_below hrg1 ((Below.rf _).al _)).left_eq, hrg.left_eq]; omega
end Go.Proofs.Qxb6500716a
