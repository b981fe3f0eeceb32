/-
  Stand: the walk.
-/
import Derived.Test.Qxb6500717aGreatSpan
import Derived.Test.Qxb6500717aGreatPlan
namespace Go.Proofs.Qxb6500717aGreat
open Go.RowKit
set_option linter.unusedSimpArgs false
set_option linter.unusedVariables false

section
variable {w w3 : World} {lab lab' : Nat → Nat} {M : TabM} {T : TabS}
theorem SpAt.below {tag : Nat} {v : Value} {l : List (Nat × Nat × Nat)} (h : SpAt w lab tag v l) (hb : Below w.heap.size w w3) : SpAt w3 lab tag v l := h.of hb.size (fun b hlt _ => hb.block b hlt)
theorem SpAt.relab {tag : Nat} {v : Value} {l : List (Nat × Nat × Nat)} (h : SpAt w lab tag v l) (hs : ∀ k, k < w.heap.size → lab' k = lab k) : SpAt w lab' tag v l := by
  obtain ⟨ao, cap, h1, h2, h3⟩ := h.ex
  refine ⟨ao, cap, h1, h2, ?_⟩
  rcases h3 with h3 | ⟨b, e, hl, hp⟩
  · exact Or.inl h3
  · exact Or.inr ⟨b, e, ⟨(hs b hp.lt).trans hl.1, hl.2⟩, hp⟩
/-- A robot's spans are replaced. -/
theorem TAt.setS (h : TAt w lab M T) {r : Nat} (hr : r < T.nr) {v : Value} {l : List (Nat × Nat × Nat)} (hk : KeptL lab (fun x => x = 20 + r) w w3) (hlab : ∀ k, k < w.heap.size → lab' k = lab k) (hsp : SpAt w3 lab' (20 + r) v l)
    (hl : ∀ x, x ∈ l → x.1 < T.nc ∧ x.2.1 ≤ 2000000000 ∧ x.2.2 ≤ 1099511627776) (hln : l.length ≤ 1536) : TAt (w3.setCell ⟨M.s, r, none⟩ v) lab' { M with sv := upd M.sv r v } { T with sp := upd T.sp r l } := by
  have hnr := h.bd.nr
  have ls' : lab' M.s = 9 := (hlab _ h.bs.lt).trans h.ls
  have hk2 : KeptL lab' (fun x => x = 9) w3 (w3.setCell ⟨M.s, r, none⟩ v) := (KeptL.refl lab' _ w3).set ls' _
  have bs3 := h.bs.keptL hk (by rw [h.ls]; omega)
  refine ⟨{ h.bd with sp := fun r' x hr' hx => ?_, ln := fun r' hr' => ?_ }, ?_, ?_, ?_, fun r' hr' => ?_, ?_, fun r' hr' => ?_, (hlab _ h.bt.lt).trans h.lt, (hlab _ h.bg.lt).trans h.lg, (hlab _ h.bp.lt).trans h.lp, ls', fun r' hr' => (hlab _ (h.bpr r' hr').lt).trans (h.lpr r' hr')⟩
  · have hx2 : x ∈ upd T.sp r l r' := hx
    unfold upd at hx2
    split at hx2
    · exact hl x hx2
    · exact h.bd.sp r' x hr' hx2
  · show (upd T.sp r l r').length ≤ 1536
    unfold upd
    split
    · exact hln
    · exact h.bd.ln r' hr'
  · exact ((h.bt.keptL hk (by rw [h.lt]; omega)).keptL hk2 (by rw [(hlab _ h.bt.lt).trans h.lt]; omega)).congr (fun i hi => by
      rcases (by omega : i = 0 ∨ i = 1 ∨ i = 2 ∨ i = 3 ∨ i = 4 ∨ i = 5 ∨ i = 6 ∨ i = 7) with rfl | rfl | rfl | rfl | rfl | rfl | rfl | rfl <;> rfl)
  · exact (h.bg.keptL hk (by rw [h.lg]; omega)).keptL hk2 (by rw [(hlab _ h.bg.lt).trans h.lg]; omega)
  · exact (h.bp.keptL hk (by rw [h.lp]; omega)).keptL hk2 (by rw [(hlab _ h.bp.lt).trans h.lp]; omega)
  · exact ((h.bpr r' hr').keptL hk (by rw [h.lpr r' hr']; have : r' < T.nr := hr'; omega)).keptL hk2 (by rw [(hlab _ (h.bpr r' hr').lt).trans (h.lpr r' hr')]; have : r' < T.nr := hr'; omega)
  · exact bs3.set r v hr
  · show SpAt _ lab' (20 + r') (upd M.sv r v r') (upd T.sp r l r')
    by_cases e : r' = r
    · subst e
      rw [upd_at, upd_at]
      exact hsp.keptL hk2 (by omega)
    · rw [upd_ne _ _ e, upd_ne _ _ e]
      have h1 := (h.bsr r' hr').relab hlab
      have hk' : ∀ b, b < w.heap.size → lab' b = 20 + r' → w3.heap[b]? = w.heap[b]? := fun b hb hl2 => hk.block b hb (by rw [← hlab b hb, hl2]; omega)
      exact (h1.of hk.size hk').keptL hk2 (by omega)
end

theorem KeptL.cell {lab : Nat → Nat} {A : Nat → Prop} {w w1 : World} (h : KeptL lab A w w1) {b : Nat} (i : Nat) (hlt : b < w.heap.size) (hne : ¬ A (lab b)) : w1.cell? ⟨b, i, none⟩ = w.cell? ⟨b, i, none⟩ := World.cell?_of_block (h.block b hlt hne)
theorem KeptL.frozen {lab : Nat → Nat} {A : Nat → Prop} {w w1 : World} (h : KeptL lab A w w1) {b : Nat} (i : Nat) (hlt : b < w.heap.size) (hne : ¬ A (lab b)) : w1.frozen? ⟨b, i, none⟩ = w.frozen? ⟨b, i, none⟩ := World.frozen?_of_block (h.block b hlt hne)

theorem Con.sp_le {T : TabS} (h : Con T) {r : Nat} (hr : r < T.nr) : (T.sp r).length ≤ T.held := by
  rw [h.held]
  have h2 := sumR_le T.own T.nr hr
  unfold TabS.cnt
  unfold TabS.own at h2 ⊢
  omega

/-- Robot r stands on cell c from tick t on. -/
def TabS.sit (T : TabS) (r c t : Nat) : TabS := { T with sp := upd T.sp r (T.sp r ++ [(c, t, 1099511627776)]), held := T.held + 1 }
/-- What 'Stand' answers and leaves. -/
def TabS.stand (T : TabS) (r c t : Int) : Int × TabS :=
  if T.place r c t ≠ 0 then (T.place r c t, T)
  else if T.busy r.toNat t.toNat = true then (5, T)
  else if T.free r.toNat c.toNat t.toNat = false then (6, T)
  else if (decide (T.at r.toNat (t - 1) ≠ -1) && T.swaps r (T.at r.toNat (t - 1)).toNat c.toNat (t - 1)) = true then (7, T)
  else if T.cap ≤ T.held then (8, T)
  else (0, T.sit r.toNat c.toNat t.toNat)

def standPost (lab : Nat → Nat) (M : TabM) (code : Int) (T' : TabS) (r : Int) (w : World) (e : Ending) (w' : World) : Prop :=
  ∃ (lab' : Nat → Nat) (M' : TabM), e = .returned (.int .u8 code) ∧ TAt w' lab' M' T' ∧ M'.t = M.t ∧ (∀ k, k < w.heap.size → lab' k = lab k) ∧ KeptL lab (fun x => x = 6 ∨ x = 9 ∨ x = 20 + r.toNat) w w'

set_option maxRecDepth 20000 in
set_option maxHeartbeats 4000000 in
theorem stand_any (M : TabM) (T : TabS) (lab : Nat → Nat) (r c t : Int) (w : World) (h : TAt w lab M T) (hcon : Con T) :
    Calls Tryz.prog 29 #[.pointer (some ⟨M.t, 0, none⟩), .int .i64 (r), .int .i64 (c), .int .i64 (t)] w (standPost lab M (T.stand r c t).1 (T.stand r c t).2 r w) := by
  have HH := hid h
  have PL := hid (place_any M T lab r c t w h)
  have hl1 := h.bt.lt
  by_cases hp : T.place r c t ≠ 0
  · have e0 : T.stand r c t = (T.place r c t, T) := by unfold TabS.stand; rw [if_pos hp]
    rw [e0]
    generalize T.place r c t = x at *
    have b1 : (x != 0) = true := by simpa using hp
    have b2 : (x == 0) = false := by simpa using hp
    clear h hp e0
    go_enter Tryz.func29, Tryz.ntmps29
    go_wp2_with (go_at_call 68; refine PL.out.mono ?_; rintro e w ⟨rfl, rfl⟩)
    go_ret
    exact ⟨lab, M, rfl, HH.out, rfl, fun _ _ => rfl, KeptL.refl _ _ _⟩
  · have hp0 : T.place r c t = 0 := by simpa using hp
    obtain ⟨⟨r0, r1⟩, ⟨q0, q1⟩, t0, t1⟩ := TabS.place_zero hp0
    rw [hp0] at PL
    obtain ⟨rn, rfl⟩ : ∃ rn : Nat, r = rn := ⟨r.toNat, by omega⟩
    obtain ⟨cn, rfl⟩ : ∃ cn : Nat, c = cn := ⟨c.toNat, by omega⟩
    obtain ⟨tn, rfl⟩ : ∃ tn : Nat, t = tn := ⟨t.toNat, by omega⟩
    have hr : rn < T.nr := by omega
    have hc : cn < T.nc := by omega
    have hbb := h.bd.base
    have e0 : T.stand rn cn tn = if T.busy rn tn = true then (5, T) else if T.free rn cn tn = false then (6, T) else if (decide (T.at rn ((tn : Int) - 1) ≠ -1) && T.swaps rn (T.at rn ((tn : Int) - 1)).toNat cn ((tn : Int) - 1)) = true then (7, T) else if T.cap ≤ T.held then (8, T) else (0, T.sit rn cn tn) := by
      unfold TabS.stand; rw [if_neg (by rw [hp0]; simp)]; rfl
    have A1 := hid (at_any M T lab rn ((tn : Int) - 1) w h hr)
    have B1 := hid (fun z => busy_any M T lab rn tn (w.ext z) (h.ex z) hr (by omega))
    have F1 := hid (fun z => free_any M T lab rn cn tn (w.ext z) (h.ex z) hr hc (by omega))
    have hab := TabS.at_bd h.bd hr ((tn : Int) - 1)
    have hs1 := fun (pn : Nat) (hlt : pn < T.nc) z => swaps_any M T lab rn pn cn ((tn : Int) - 1) (w.ext z) (h.ex z) hlt hc (by omega)
    rw [e0]
    clear hp hp0 e0
    cases hbz : T.busy rn tn with
    | true =>
      rw [hbz] at B1
      rw [if_pos rfl]
      generalize T.at rn ((tn : Int) - 1) = x at *
      clear h hbz hs1
      go_enter Tryz.func29, Tryz.ntmps29
      go_wp2_with (first | (go_at_call 68; refine PL.out.mono ?_; rintro e w ⟨rfl, rfl⟩) | (go_at_call 69; refine A1.out.mono ?_; rintro e w' ⟨rfl, z1, rfl⟩) | (go_at_call 72; refine (B1.out _).mono ?_; rintro e w' ⟨rfl, z2, rfl⟩) | (go_at_call 73; refine (F1.out _).mono ?_; rintro e w' ⟨rfl, z3, rfl⟩))
      go_ret
      exact ⟨lab, M, rfl, HH.out.ex _, rfl, fun _ _ => rfl, (KeptL.refl _ _ _).ex _⟩
    | false =>
      rw [hbz] at B1
      rw [if_neg (by simp)]
      cases hfz : T.free rn cn tn with
      | false =>
        rw [hfz] at F1
        rw [if_pos rfl]
        generalize T.at rn ((tn : Int) - 1) = x at *
        clear h hbz hfz hs1
        go_enter Tryz.func29, Tryz.ntmps29
        go_wp2_with (first | (go_at_call 68; refine PL.out.mono ?_; rintro e w ⟨rfl, rfl⟩) | (go_at_call 69; refine A1.out.mono ?_; rintro e w' ⟨rfl, z1, rfl⟩) | (go_at_call 72; refine (B1.out _).mono ?_; rintro e w' ⟨rfl, z2, rfl⟩) | (go_at_call 73; refine (F1.out _).mono ?_; rintro e w' ⟨rfl, z3, rfl⟩))
        go_ret
        exact ⟨lab, M, rfl, HH.out.ex _, rfl, fun _ _ => rfl, (KeptL.refl _ _ _).ex _⟩
      | true =>
        rw [hfz] at F1
        rw [if_neg (by simp)]
        have c2 := h.c2
        have c4 := h.c4
        have hcap := h.bd.cap
        have hheld := h.bd.held
        have hnc := h.bd.nc
        rcases (by omega : T.at rn ((tn : Int) - 1) = -1 ∨ 0 ≤ T.at rn ((tn : Int) - 1)) with hx | hx
        · rw [hx] at A1 hab ⊢
          rw [if_neg (by simp)]
          by_cases hf : T.cap ≤ T.held
          · rw [if_pos hf]
            have bf : decide (T.cap ≤ T.held) = true := by simp; omega
            clear h hbz hfz hs1 hf
            go_enter Tryz.func29, Tryz.ntmps29
            go_wp2_with (first | (go_at_call 68; refine PL.out.mono ?_; rintro e w ⟨rfl, rfl⟩) | (go_at_call 69; refine A1.out.mono ?_; rintro e w' ⟨rfl, z1, rfl⟩) | (go_at_call 72; refine (B1.out _).mono ?_; rintro e w' ⟨rfl, z2, rfl⟩) | (go_at_call 73; refine (F1.out _).mono ?_; rintro e w' ⟨rfl, z3, rfl⟩))
            first | with_reducible refine wp_region_ext2 (by kernel_rfl) (by kernel_rfl) ?_ | refine wp_region_ext (by kernel_rfl) (by kernel_rfl) ?_
            repeat (go_big_quiet_step (fail))
            refine wpQuiet_nil ?_
            rintro _ ⟨z, rfl⟩
            go_wp2
            go_ret
            exact ⟨lab, M, rfl, HH.out.ex _, rfl, fun _ _ => rfl, (KeptL.refl _ _ _).ex _⟩
          · rw [if_neg hf]
            have bf : decide (T.cap ≤ T.held) = false := by simp; omega
            have hf2 : T.held + 1 ≤ T.cap := by omega
            have c7 := h.c7
            have cs := h.bs.is rn hr
            have fs := h.bs.fz rn hr
            have f4 := h.bt.fz 4 (by omega)
            have l3 := h.bs.lt
            have n1 : M.s ≠ M.t := fun e => by have := h.ls; rw [e, h.lt] at this; omega
            have hnr := h.bd.nr
            have hln := hcon.sp_le hr
            have SP := hid (h.bsr rn hr)
            obtain ⟨v, hv⟩ : ∃ v, M.sv rn = v := ⟨_, rfl⟩
            rw [hv] at cs SP
            clear h hbz hfz hs1 hf hv
            go_enter Tryz.func29, Tryz.ntmps29
            go_wp2_with (first | (go_at_call 68; refine PL.out.mono ?_; rintro e w ⟨rfl, rfl⟩) | (go_at_call 69; refine A1.out.mono ?_; rintro e w' ⟨rfl, z1, rfl⟩) | (go_at_call 72; refine (B1.out _).mono ?_; rintro e w' ⟨rfl, z2, rfl⟩) | (go_at_call 73; refine (F1.out _).mono ?_; rintro e w' ⟨rfl, z3, rfl⟩))
            first | with_reducible refine wp_region_ext2 (by kernel_rfl) (by kernel_rfl) ?_ | refine wp_region_ext (by kernel_rfl) (by kernel_rfl) ?_
            repeat (go_big_quiet_step (fail))
            refine wpQuiet_nil ?_
            rintro _ ⟨z, rfl⟩
            go_wp2
            refine wp_region_plan 17 (fun w' => w'.cell? ⟨M.t, 7, none⟩ = some (.slice (some ⟨M.s, 0, none⟩) T.nr T.nr) ∧ w'.cell? ⟨M.s, rn, none⟩ = some v) [(0, true), (1, true), (2, true), (3, true), (4, true), (5, true), (6, true), (7, true), (8, true), (9, true), (10, true), (11, true), (12, true), (13, true), (14, true), (15, false), (16, false), (17, false), (18, false)] (by kernel_rfl) (by kernel_rfl) (by kernel_rfl) (by kernel_rfl) (by kernel_rfl) (by kernel_rfl) ?_ ?_
            · simp [go_sem, ↓IntWalk.iteOmega, *]
            repeat (refine wpPlan_q (v := ?_) rfl rfl ?_ ?_; rotate_left; focus (intro w hSw; (try dsimp only at hSw); go_simp; (try (with_reducible rfl)); done); try simp only [Act.put, List.setIfInBounds_toArray, List.set_cons_zero, List.set_cons_succ])
            refine wpPlan_s rfl rfl (fun K hK => ?_)
            go_simp
            refine hK.out _ _ (fun _ => by simp [go_sem, ↓IntWalk.iteOmega, *]) ?_
            clear hK K
            refine wpPlan_s rfl rfl (fun K hK => ?_)
            refine wp_sp rfl _ _ rfl lab (20 + rn) v (T.sp rn) rfl (SP.out.below (by (repeat (first | with_reducible exact Below.rf _ | with_reducible exact World.below_ext _ _ | with_reducible refine Below.ex ?_ _ | with_reducible refine Below.al ?_ _ | with_reducible refine Below.setCell ?_ (by simp) _ | with_reducible refine Below.drew ?_)))) (by omega) _ (cn, tn, 1099511627776) rfl (by simp [go_sem, ↓IntWalk.iteOmega]) (by simp [go_sem, ↓IntWalk.iteOmega]) (by simp [go_sem, ↓IntWalk.iteOmega]) ?_
            intro v3 w3 lab3 hsp3 hlab3 hk3
            obtain ⟨ao3, cap3, rfl⟩ := hsp3.val
            have q1 := hk3.cell (b := M.t) 7 (by simp; omega) (by rw [HH.out.lt]; omega)
            have q2 := hk3.cell (b := M.s) rn (by simp; omega) (by rw [HH.out.ls]; omega)
            have q3 := hk3.frozen (b := M.s) rn (by simp; omega) (by rw [HH.out.ls]; omega)
            have q4 := hk3.cell (b := M.t) 4 (by simp; omega) (by rw [HH.out.lt]; omega)
            have q5 := hk3.frozen (b := M.t) 4 (by simp; omega) (by rw [HH.out.lt]; omega)
            simp [go_sem, ↓IntWalk.iteOmega] at q1 q2 q3 q4 q5
            have hs3 := hk3.size
            simp at hs3
            refine hK.out _ _ (fun _ => by simp [go_sem, ↓IntWalk.iteOmega, *]) ?_
            clear hK K
            have HS3 := hid hsp3
            have HL3 := hid hlab3
            have HK3 := hid hk3
            clear hsp3 hlab3 hk3
            refine wpPlan_s rfl rfl (fun K hK => ?_)
            go_simp
            refine hK.out _ _ (fun h => absurd h (by omega)) ?_
            clear hK K
            refine wpPlan_s rfl rfl (fun K hK => ?_)
            go_simp
            refine hK.out _ _ (fun h => absurd h (by omega)) ?_
            clear hK K
            refine wpPlan_nil ?_
            refine NoPanic.normal ?_
            go_wp2
            go_ret
            have kk : KeptL lab (fun x => x = 20 + rn) w w3 := KeptL.trans (KeptL.of_below (by (repeat (first | with_reducible exact Below.rf _ | with_reducible exact World.below_ext _ _ | with_reducible refine Below.ex ?_ _ | with_reducible refine Below.al ?_ _ | with_reducible refine Below.setCell ?_ (by simp) _ | with_reducible refine Below.drew ?_)))) HK3.out
            have hll : ∀ k, k < w.heap.size → lab3 k = lab k := fun k hk => HL3.out k (by simp; omega)
            refine ⟨lab3, { M with sv := upd M.sv rn (.slice ao3 ((T.sp rn).length + 1) cap3) }, rfl, ?_, rfl, hll, ?_⟩
            · have hS3 := HS3.out
              rw [List.length_append] at hS3
              have h1 := HH.out.setS (lab' := lab3) hr kk hll hS3 (fun x hx => by
                rcases List.mem_append.1 hx with h | h
                · exact HH.out.bd.sp rn x hr h
                · simp at h; subst h; exact ⟨hc, by show tn ≤ 2000000000; omega, by show 1099511627776 ≤ 1099511627776; omega⟩) (by simp; omega)
              exact h1.setH (T.held + 1) (by show T.held + 1 ≤ T.cap; omega)
            · refine KeptL.set (KeptL.set (kk.mono (fun x hx => ?_)) (Or.inr (Or.inl HH.out.ls)) _) (Or.inl HH.out.lt) _
              exact Or.inr (Or.inr hx)
        · obtain ⟨pn, hpn⟩ : ∃ pn : Nat, T.at rn ((tn : Int) - 1) = pn := ⟨(T.at rn ((tn : Int) - 1)).toNat, by omega⟩
          rw [hpn] at A1 hab ⊢
          rw [Int.toNat_natCast]
          have e1 : decide ((pn : Int) ≠ -1) = true := by simp
          rw [e1, Bool.true_and]
          have S1 := hid (hs1 pn (by omega))
          have b2 : ((pn : Int) != -1) = true := by simp
          have b3 : ((pn : Int) == -1) = false := by simp
          cases hsv : T.swaps rn pn cn ((tn : Int) - 1) with
          | true =>
            rw [hsv] at S1
            rw [if_pos rfl]
            clear h hbz hfz hs1 hpn hsv e1 hx
            go_enter Tryz.func29, Tryz.ntmps29
            go_wp2_with (first | (go_at_call 68; refine PL.out.mono ?_; rintro e w ⟨rfl, rfl⟩) | (go_at_call 69; refine A1.out.mono ?_; rintro e w' ⟨rfl, z1, rfl⟩) | (go_at_call 72; refine (B1.out _).mono ?_; rintro e w' ⟨rfl, z2, rfl⟩) | (go_at_call 73; refine (F1.out _).mono ?_; rintro e w' ⟨rfl, z3, rfl⟩) | (go_at_call 74; refine (S1.out _).mono ?_; rintro e w' ⟨rfl, z4, rfl⟩))
            go_ret
            exact ⟨lab, M, rfl, HH.out.ex _, rfl, fun _ _ => rfl, (KeptL.refl _ _ _).ex _⟩
          | false =>
            rw [hsv] at S1
            rw [if_neg (by simp)]
            clear hpn hsv e1 hx
            by_cases hf : T.cap ≤ T.held
            · rw [if_pos hf]
              have bf : decide (T.cap ≤ T.held) = true := by simp; omega
              clear h hbz hfz hs1 hf
              go_enter Tryz.func29, Tryz.ntmps29
              go_wp2_with (first | (go_at_call 68; refine PL.out.mono ?_; rintro e w ⟨rfl, rfl⟩) | (go_at_call 69; refine A1.out.mono ?_; rintro e w' ⟨rfl, z1, rfl⟩) | (go_at_call 72; refine (B1.out _).mono ?_; rintro e w' ⟨rfl, z2, rfl⟩) | (go_at_call 73; refine (F1.out _).mono ?_; rintro e w' ⟨rfl, z3, rfl⟩) | (go_at_call 74; refine (S1.out _).mono ?_; rintro e w' ⟨rfl, z4, rfl⟩))
              first | with_reducible refine wp_region_ext2 (by kernel_rfl) (by kernel_rfl) ?_ | refine wp_region_ext (by kernel_rfl) (by kernel_rfl) ?_
              repeat (go_big_quiet_step (fail))
              refine wpQuiet_nil ?_
              rintro _ ⟨z, rfl⟩
              go_wp2
              go_ret
              exact ⟨lab, M, rfl, HH.out.ex _, rfl, fun _ _ => rfl, (KeptL.refl _ _ _).ex _⟩
            · rw [if_neg hf]
              have bf : decide (T.cap ≤ T.held) = false := by simp; omega
              have hf2 : T.held + 1 ≤ T.cap := by omega
              have c7 := h.c7
              have cs := h.bs.is rn hr
              have fs := h.bs.fz rn hr
              have f4 := h.bt.fz 4 (by omega)
              have l3 := h.bs.lt
              have n1 : M.s ≠ M.t := fun e => by have := h.ls; rw [e, h.lt] at this; omega
              have hnr := h.bd.nr
              have hln := hcon.sp_le hr
              have SP := hid (h.bsr rn hr)
              obtain ⟨v, hv⟩ : ∃ v, M.sv rn = v := ⟨_, rfl⟩
              rw [hv] at cs SP
              clear h hbz hfz hs1 hf hv
              go_enter Tryz.func29, Tryz.ntmps29
              go_wp2_with (first | (go_at_call 68; refine PL.out.mono ?_; rintro e w ⟨rfl, rfl⟩) | (go_at_call 69; refine A1.out.mono ?_; rintro e w' ⟨rfl, z1, rfl⟩) | (go_at_call 72; refine (B1.out _).mono ?_; rintro e w' ⟨rfl, z2, rfl⟩) | (go_at_call 73; refine (F1.out _).mono ?_; rintro e w' ⟨rfl, z3, rfl⟩) | (go_at_call 74; refine (S1.out _).mono ?_; rintro e w' ⟨rfl, z4, rfl⟩))
              first | with_reducible refine wp_region_ext2 (by kernel_rfl) (by kernel_rfl) ?_ | refine wp_region_ext (by kernel_rfl) (by kernel_rfl) ?_
              repeat (go_big_quiet_step (fail))
              refine wpQuiet_nil ?_
              rintro _ ⟨z, rfl⟩
              go_wp2
              refine wp_region_plan 17 (fun w' => w'.cell? ⟨M.t, 7, none⟩ = some (.slice (some ⟨M.s, 0, none⟩) T.nr T.nr) ∧ w'.cell? ⟨M.s, rn, none⟩ = some v) [(0, true), (1, true), (2, true), (3, true), (4, true), (5, true), (6, true), (7, true), (8, true), (9, true), (10, true), (11, true), (12, true), (13, true), (14, true), (15, false), (16, false), (17, false), (18, false)] (by kernel_rfl) (by kernel_rfl) (by kernel_rfl) (by kernel_rfl) (by kernel_rfl) (by kernel_rfl) ?_ ?_
              · simp [go_sem, ↓IntWalk.iteOmega, *]
              repeat (refine wpPlan_q (v := ?_) rfl rfl ?_ ?_; rotate_left; focus (intro w hSw; (try dsimp only at hSw); go_simp; (try (with_reducible rfl)); done); try simp only [Act.put, List.setIfInBounds_toArray, List.set_cons_zero, List.set_cons_succ])
              refine wpPlan_s rfl rfl (fun K hK => ?_)
              go_simp
              refine hK.out _ _ (fun _ => by simp [go_sem, ↓IntWalk.iteOmega, *]) ?_
              clear hK K
              refine wpPlan_s rfl rfl (fun K hK => ?_)
              refine wp_sp rfl _ _ rfl lab (20 + rn) v (T.sp rn) rfl (SP.out.below (by (repeat (first | with_reducible exact Below.rf _ | with_reducible exact World.below_ext _ _ | with_reducible refine Below.ex ?_ _ | with_reducible refine Below.al ?_ _ | with_reducible refine Below.setCell ?_ (by simp) _ | with_reducible refine Below.drew ?_)))) (by omega) _ (cn, tn, 1099511627776) rfl (by simp [go_sem, ↓IntWalk.iteOmega]) (by simp [go_sem, ↓IntWalk.iteOmega]) (by simp [go_sem, ↓IntWalk.iteOmega]) ?_
              intro v3 w3 lab3 hsp3 hlab3 hk3
              obtain ⟨ao3, cap3, rfl⟩ := hsp3.val
              have q1 := hk3.cell (b := M.t) 7 (by simp; omega) (by rw [HH.out.lt]; omega)
              have q2 := hk3.cell (b := M.s) rn (by simp; omega) (by rw [HH.out.ls]; omega)
              have q3 := hk3.frozen (b := M.s) rn (by simp; omega) (by rw [HH.out.ls]; omega)
              have q4 := hk3.cell (b := M.t) 4 (by simp; omega) (by rw [HH.out.lt]; omega)
              have q5 := hk3.frozen (b := M.t) 4 (by simp; omega) (by rw [HH.out.lt]; omega)
              simp [go_sem, ↓IntWalk.iteOmega] at q1 q2 q3 q4 q5
              have hs3 := hk3.size
              simp at hs3
              refine hK.out _ _ (fun _ => by simp [go_sem, ↓IntWalk.iteOmega, *]) ?_
              clear hK K
              have HS3 := hid hsp3
              have HL3 := hid hlab3
              have HK3 := hid hk3
              clear hsp3 hlab3 hk3
              refine wpPlan_s rfl rfl (fun K hK => ?_)
              go_simp
              refine hK.out _ _ (fun h => absurd h (by omega)) ?_
              clear hK K
              refine wpPlan_s rfl rfl (fun K hK => ?_)
              go_simp
              refine hK.out _ _ (fun h => absurd h (by omega)) ?_
              clear hK K
              refine wpPlan_nil ?_
              refine NoPanic.normal ?_
              go_wp2
              go_ret
              have kk : KeptL lab (fun x => x = 20 + rn) w w3 := KeptL.trans (KeptL.of_below (by (repeat (first | with_reducible exact Below.rf _ | with_reducible exact World.below_ext _ _ | with_reducible refine Below.ex ?_ _ | with_reducible refine Below.al ?_ _ | with_reducible refine Below.setCell ?_ (by simp) _ | with_reducible refine Below.drew ?_)))) HK3.out
              have hll : ∀ k, k < w.heap.size → lab3 k = lab k := fun k hk => HL3.out k (by simp; omega)
              refine ⟨lab3, { M with sv := upd M.sv rn (.slice ao3 ((T.sp rn).length + 1) cap3) }, rfl, ?_, rfl, hll, ?_⟩
              · have hS3 := HS3.out
                rw [List.length_append] at hS3
                have h1 := HH.out.setS (lab' := lab3) hr kk hll hS3 (fun x hx => by
                  rcases List.mem_append.1 hx with h | h
                  · exact HH.out.bd.sp rn x hr h
                  · simp at h; subst h; exact ⟨hc, by show tn ≤ 2000000000; omega, by show 1099511627776 ≤ 1099511627776; omega⟩) (by simp; omega)
                exact h1.setH (T.held + 1) (by show T.held + 1 ≤ T.cap; omega)
              · refine KeptL.set (KeptL.set (kk.mono (fun x hx => ?_)) (Or.inr (Or.inl HH.out.ls)) _) (Or.inl HH.out.lt) _
                exact Or.inr (Or.inr hx)
end Go.Proofs.Qxb6500717aGreat
