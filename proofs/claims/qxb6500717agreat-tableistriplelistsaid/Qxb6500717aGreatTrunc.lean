/-
  Truncate, Release: plain and the walk.
-/
import Derived.Test.Qxb6500717aGreatStand
namespace Go.Proofs.Qxb6500717aGreat
open Go.RowKit
set_option linter.unusedSimpArgs false
set_option linter.unusedVariables false

def slLen : Value → Nat
  | .slice _ n _ => n
  | _ => 0
/-- n drops from tick t on: how many, and what is left. -/
def TabS.dropN (r : Nat) : Nat → Nat → TabS → Nat × TabS
  | _, 0, T => (0, T)
  | t, n + 1, T => ((if (T.drop r (t % 256)).1 then 1 else 0) + (TabS.dropN r (t + 1) n (T.drop r (t % 256)).2).1, (TabS.dropN r (t + 1) n (T.drop r (t % 256)).2).2)
/-- How many of the first j spans are left when those that begin at or behind t are popped. -/
def popN (l : List (Nat × Nat × Nat)) (t : Nat) : Nat → Nat
  | 0 => 0
  | j + 1 => match l[j]? with
    | some x => if t ≤ x.2.1 then popN l t j else j + 1
    | none => j + 1
/-- The last of the spans ends at t at the latest. -/
def cutL (l : List (Nat × Nat × Nat)) (t : Nat) : List (Nat × Nat × Nat) := match l[l.length - 1]? with
  | some x => if t < x.2.2 then l.set (l.length - 1) (x.1, x.2.1, t) else l
  | none => l
theorem popN_le (l : List (Nat × Nat × Nat)) (t : Nat) : ∀ j, popN l t j ≤ j := by
  intro j
  induction j with
  | zero => exact Nat.le_refl _
  | succ j ih =>
    unfold popN
    split
    · split <;> omega
    · omega
/-- What 'Truncate' leaves of a table and how much it removes, from tick t on. -/
def TabS.trunc (T : TabS) (r t : Nat) : Nat × TabS :=
  let d := TabS.dropN r t (T.base + 256 - t) T
  let l := d.2.sp r
  let j := popN l t l.length
  (d.1 + (l.length - j), { d.2 with held := d.2.held - (l.length - j), sp := upd d.2.sp r (cutL (l.take j) t) })

theorem srow_set (l : List (Nat × Nat × Nat)) (k : Nat) (x : Nat × Nat × Nat) (u : Nat) (h : l[k]? = some x) : srow (l.set k (x.1, x.2.1, u)) = (srow l).set (3 * k + 2) (.int .i64 (u)) := by
  induction l generalizing k with
  | nil => simp at h
  | cons y l ih =>
    cases k with
    | zero => simp at h; subst h; rfl
    | succ k =>
      have := ih k (by simpa using h)
      rw [show 3 * (k + 1) + 2 = 3 * k + 2 + 3 by omega]
      show srow [y] ++ srow (l.set k (x.1, x.2.1, u)) = _
      rw [this]
      rfl
theorem srow_take (l : List (Nat × Nat × Nat)) (k : Nat) : srow (l.take k) = (srow l).take (3 * k) := by
  induction l generalizing k with
  | nil => simp [srow]
  | cons y l ih =>
    cases k with
    | zero => simp [srow]
    | succ k =>
      rw [show 3 * (k + 1) = 3 * k + 3 by omega]
      show srow [y] ++ srow (l.take k) = _
      rw [ih k]
      rfl

section
variable {w : World} {b k : Nat} {vs : List Value}
theorem Pad.take (h : Pad w b k vs) (n : Nat) : Pad w b k (vs.take n) := by
  refine ⟨h.lt, h.has, h.fz, fun j u hu => ?_, by have := h.len; simp; omega⟩
  rw [List.getElem?_take] at hu
  split at hu
  · exact h.is j u hu
  · cases hu
theorem Pad.set (h : Pad w b k vs) (i : Nat) (v : Value) (hi : i < vs.length) : Pad (w.setCell ⟨b, i, none⟩ v) b k (vs.set i v) := by
  have hl := h.len
  obtain ⟨old, ho⟩ := Option.isSome_iff_exists.1 (h.has i (by omega))
  have oth : ∀ j, j ≠ i → (w.setCell ⟨b, i, none⟩ v).cell? ⟨b, j, none⟩ = w.cell? ⟨b, j, none⟩ := fun j hj => World.cell?_setCell_other _ _ _ _ (fun e => hj (by have := congrArg Addr.off e; simpa using this.symm))
  refine ⟨by simpa using h.lt, fun j hj => ?_, fun j hj => by rw [World.frozen?_setCell]; exact h.fz j hj, fun j u hu => ?_, by simpa using hl⟩
  · by_cases hji : j = i
    · subst hji; rw [World.cell?_setCell_same _ _ _ ho]; rfl
    · rw [oth j hji]; exact h.has j hj
  · by_cases hji : j = i
    · subst hji
      rw [List.getElem?_set_self hi] at hu
      rw [World.cell?_setCell_same _ _ _ ho, ← hu]
    · rw [List.getElem?_set_ne (Ne.symm hji)] at hu
      rw [oth j hji]; exact h.is j u hu
end

section
variable {T : TabS}
theorem TabS.drop_sp (T : TabS) (r s : Nat) : (T.drop r s).2.sp = T.sp := by unfold TabS.drop; split <;> rfl
theorem TabS.drop_nc (T : TabS) (r s : Nat) : (T.drop r s).2.nc = T.nc := by unfold TabS.drop; split <;> rfl
theorem TabS.drop_cap (T : TabS) (r s : Nat) : (T.drop r s).2.cap = T.cap := by unfold TabS.drop; split <;> rfl
end

/-- A robot's spans are replaced by fewer. -/
theorem Con.cut {T : TabS} (h : Con T) {r : Nat} (hr : r < T.nr) (l : List (Nat × Nat × Nat)) (m : Nat) (hl : l.length + m = (T.sp r).length) : Con { T with held := T.held - m, sp := upd T.sp r l } := by
  refine ⟨?_, h.gp, h.pg⟩
  show T.held - m = sumR (fun i => cntS (T.pl i) 256 + (upd T.sp r l i).length) T.nr
  have h1 : T.cnt = sumR (fun i => cntS (T.pl i) 256 + (upd T.sp r l i).length) T.nr + m := by
    refine sumR_set (g := fun i => cntS (T.pl i) 256 + (upd T.sp r l i).length) (h := T.own) (r := r) m ?_ ?_ T.nr hr
    · show cntS (T.pl r) 256 + (T.sp r).length = cntS (T.pl r) 256 + (upd T.sp r l r).length + m
      rw [upd_at]; omega
    · intro i hi
      show cntS (T.pl i) 256 + (upd T.sp r l i).length = cntS (T.pl i) 256 + (T.sp i).length
      rw [upd_ne _ _ hi]
  rw [h.held]; omega
theorem cutL_len (l : List (Nat × Nat × Nat)) (t : Nat) : (cutL l t).length = l.length := by
  unfold cutL
  split
  · split <;> simp
  · rfl
theorem cutL_mem {l : List (Nat × Nat × Nat)} {t : Nat} {x : Nat × Nat × Nat} (h : x ∈ cutL l t) : ∃ y, y ∈ l ∧ x.1 = y.1 ∧ x.2.1 = y.2.1 ∧ x.2.2 ≤ y.2.2 := by
  unfold cutL at h
  split at h
  · rename_i z hz
    split at h
    · rename_i hlt
      rcases List.mem_or_eq_of_mem_set h with h | h
      · exact ⟨x, h, rfl, rfl, Nat.le_refl _⟩
      · subst h
        exact ⟨z, List.mem_of_getElem? hz, rfl, rfl, by show t ≤ z.2.2; omega⟩
    · exact ⟨x, h, rfl, rfl, Nat.le_refl _⟩
  · exact ⟨x, h, rfl, rfl, Nat.le_refl _⟩

theorem SpAt.take {w : World} {lab : Nat → Nat} {tag : Nat} {ao : Option Addr} {n cap : Nat} {l : List (Nat × Nat × Nat)} (h : SpAt w lab tag (.slice ao n cap) l) (hn : l.length = n) (j : Nat) (hj : j ≤ n) : SpAt w lab tag (.slice ao j cap) (l.take j) := by
  obtain ⟨ao', cap', h1, h2, h3⟩ := h.ex
  simp only [Value.slice.injEq] at h1
  obtain ⟨rfl, -, rfl⟩ := h1
  have hlen : (l.take j).length = j := by simp; omega
  refine ⟨ao, cap, by rw [hlen], by omega, ?_⟩
  rcases h3 with h3 | ⟨b, e, hl, hp⟩
  · exact Or.inl h3
  · exact Or.inr ⟨b, e, hl, by rw [srow_take]; exact Pad.take hp _⟩
theorem SpAt.cut {w : World} {lab : Nat → Nat} {tag b j cap t : Nat} {l : List (Nat × Nat × Nat)} {x : Nat × Nat × Nat} (h : SpAt w lab tag (.slice (some ⟨b, 0, none⟩) (j + 1) cap) l) (hn : l.length = j + 1) (hx : l[j]? = some x) :
    SpAt (w.setCell ⟨b, 3 * j + 2, none⟩ (.int .i64 (t))) lab tag (.slice (some ⟨b, 0, none⟩) (j + 1) cap) (l.set j (x.1, x.2.1, t)) ∧ KeptL lab (fun y => y = tag) w (w.setCell ⟨b, 3 * j + 2, none⟩ (.int .i64 (t))) := by
  obtain ⟨ao', cap', h1, h2, h3⟩ := h.ex
  simp only [Value.slice.injEq] at h1
  obtain ⟨rfl, -, rfl⟩ := h1
  rcases h3 with ⟨h3, -⟩ | ⟨b', e, hl, hp⟩
  · cases h3
  · simp only [Option.some.injEq, Addr.mk.injEq, and_true] at e
    subst e
    refine ⟨⟨_, cap, by rw [List.length_set, hn], by rw [List.length_set]; exact h2, Or.inr ⟨b, rfl, hl, ?_⟩⟩, (KeptL.refl lab _ w).set hl.1 _⟩
    rw [srow_set l j x t hx]
    exact Pad.set hp _ _ (by rw [srow_len]; omega)

theorem slice_sp (b n len cap : Nat) (h : n ≤ cap) (h0 : 0 < cap) (w : World) : (Instr.sliceAt 105 (.slice (some ⟨b, 0, none⟩) len cap) none (some (.int .i64 (n))) none).run Tryz.prog w = .ok (.slice (some ⟨b, 0, none⟩) n cap) w := by
  have he : (Tryz.prog).elem 105 = 107 := by simp [Program.elem, Tryz.underlying105]
  have ht' : (Tryz.prog).underlying 105 = some (.slice ((Tryz.prog).elem 105)) := by rw [he]; exact Tryz.underlying105
  rw [run_sliceAt_slice _ _ _ _ _ _ ht', run_slice_h _ _ _ _ _ ht' _ _ (by omega) (by omega)]
  have hsz : (sizeOf ((Tryz.prog).elem 105)).run Tryz.prog w = .ok 3 w := by rw [he]; kernel_rfl
  rw [hsz]
  simp only [Result.andThen, sliced, Int.toNat_natCast]
  rw [if_neg (by omega)]
  simp [Addr.add_lit]

def truncPost (lab : Nat → Nat) (M : TabM) (x : Nat × TabS) (r : Nat) (w : World) (e : Ending) (w' : World) : Prop :=
  ∃ M' : TabM, e = .returned (.tuple #[.int .i64 (x.1), .int .u8 0]) ∧ TAt w' lab M' x.2 ∧ Con x.2 ∧ M'.t = M.t ∧ KeptL lab (fun x => x = 6 ∨ x = 7 ∨ x = 9 ∨ x = 10 + r ∨ x = 20 + r) w w'

theorem trunc_no (M : TabM) (T : TabS) (lab : Nat → Nat) (r t : Int) (w : World) (h : TAt w lab M T) (hr : ¬ (0 ≤ r ∧ r < T.nr)) :
    Calls Tryz.prog 32 #[.pointer (some ⟨M.t, 0, none⟩), .int .i64 (r), .int .i64 (t)] w fun e w' => e = .returned (.tuple #[.int .i64 (0), .int .u8 2]) ∧ w' = w := by
  have VR := hid (validRobot_any M T lab r w h)
  have e0 : (decide (0 ≤ r) && decide (r < (T.nr : Int))) = false := by simp; omega
  rw [e0] at VR
  clear h hr e0
  go_enter Tryz.func32, Tryz.ntmps32
  go_wp2_with (go_at_call 75; refine VR.out.mono ?_; rintro e w' ⟨rfl, rfl⟩)
  go_ret2
  exact ⟨rfl, rfl⟩

set_option maxRecDepth 20000 in
set_option maxHeartbeats 4000000 in
theorem trunc_any (M : TabM) (T : TabS) (lab : Nat → Nat) (r tn : Nat) (t : Int) (w : World) (h : TAt w lab M T) (hc : Con T) (hr : r < T.nr) (htn : (tn : Int) = max t (T.base : Int)) (ht : t ≤ 9223372036854775807) :
    Calls Tryz.prog 32 #[.pointer (some ⟨M.t, 0, none⟩), .int .i64 (r), .int .i64 (t)] w (truncPost lab M (T.trunc r tn) r w) := by
  have VR := hid (validRobot_any M T lab r w h)
  have e0 : (decide (0 ≤ (r : Int)) && decide ((r : Int) < (T.nr : Int))) = true := by simp; omega
  rw [e0] at VR
  have HH := hid h
  have HC := hid hc
  have c3 := h.c3
  have hb := h.bd.base
  have hnr := h.bd.nr
  have hl := h.bt.lt
  have htb : T.base ≤ tn := by omega
  obtain ⟨d, hd⟩ : ∃ d, TabS.dropN r tn (T.base + 256 - tn) T = d := ⟨_, rfl⟩
  have HD := hid hd
  have HTN := hid htn
  have hmx : (t < T.base ∧ (tn : Int) = T.base) ∨ ((T.base : Int) ≤ t ∧ (tn : Int) = t) := by omega
  clear h hc e0 hd htn
  unfold TabS.trunc
  rw [show TabS.dropN r tn (T.base + 256 - tn) T = d from HD.out]
  rcases hmx with ⟨hm1, hm2⟩ | ⟨hm1, hm2⟩
  · have hm3 : ¬ ((T.base : Int) ≤ t) := by omega
    have HM2 := hid hm2
    clear hm2
    go_enter Tryz.func32, Tryz.ntmps32
    go_wp2_with (go_at_call 75; refine VR.out.mono ?_; rintro e w ⟨rfl, rfl⟩)
    rw [← HM2.out]
    go_loopw [6, 8] (fun y x wr => ∃ (k c : Nat) (T1 : TabS), x = .int .i64 (k) ∧ y = .int .i64 (c) ∧ tn ≤ k ∧ (k ≤ T.base + 256 ∨ k = tn) ∧ TAt wr lab M T1 ∧ Con T1 ∧ T1.base = T.base ∧ T1.nr = T.nr ∧ (c + (TabS.dropN r k (T.base + 256 - k) T1).1, (TabS.dropN r k (T.base + 256 - k) T1).2) = d ∧ c + tn ≤ k ∧ KeptL lab (fun x => x = 6 ∨ x = 7 ∨ x = 9 ∨ x = 10 + r ∨ x = 20 + r) w wr) (fun _ x _ => T.base + 256 - (intOf x).toNat)
    case atStart => exact ⟨tn, 0, T, rfl, rfl, Nat.le_refl _, Or.inr rfl, HH.out, HC.out, rfl, rfl, by rw [Nat.zero_add]; exact HD.out, by omega, KeptL.refl _ _ _⟩
    case round =>
      clear c3
      obtain ⟨k, c, T1, rfl, rfl, hk1, hk2, hT, hC, hb1, hn1, hdd, hck, hK⟩ := hrel
      have HT := hid hT
      have HC1 := hid hC
      have HK := hid hK
      have HB1 := hid hb1
      have HN1 := hid hn1
      have EN := hid (end_any M T1 lab wr hT)
      rw [hb1] at EN
      by_cases hlt : k < T.base + 256
      · have hmod : k % 256 < 256 := Nat.mod_lt _ (by omega)
        have DR := hid (drop_any M T1 lab r k _ wr hT (by rw [hn1]; exact hr) (by omega) rfl (fun hp => hC.pos (by rw [hn1]; exact hr) hmod hp))
        rw [show T.base + 256 - k = T.base + 256 - (k + 1) + 1 by omega] at hdd
        simp only [TabS.dropN] at hdd
        have HDD := hid hdd
        have bk : decide ((k : Int) < (T.base : Int) + 256) = true := by simp; omega
        clear hT hC hK hb1 hn1 hdd
        go_wp2_with (first | (go_at_call 66; refine EN.out.mono ?_; rintro e w' ⟨rfl, hw'⟩; obtain rfl := hw') | (go_at_call 67; refine hold ?_))
        unfold Hid
        refine DR.out.mono ?_
        rintro e w4 ⟨rfl, hT4, hK4⟩
        have HT4 := hid hT4
        have HK4 := hid hK4
        have HC4 := hid (HC1.out.drop (by rw [HN1.out]; exact hr) hmod HT.out.bd)
        clear hT4 hK4 DR
        cases hb : (T1.drop r (k % 256)).1 with
        | true =>
          rw [hb] at HDD
          go_wp2
          go_roundw
          case rel =>
            refine ⟨k + 1, c + 1, _, by go_num, by go_num, by omega, by omega, HT4.out, HC4.out, by rw [TabS.drop_base]; exact HB1.out, by rw [TabS.drop_nr]; exact HN1.out, ?_, by omega, HK.out.trans (HK4.out.mono (fun x hx => by omega))⟩
            have := HDD.out
            simp only [if_true, ← Nat.add_assoc] at this
            exact this
          case measure => simp [intOf]; omega
        | false =>
          rw [hb] at HDD
          go_wp2
          go_roundw
          case rel =>
            refine ⟨k + 1, c, _, by go_num, rfl, by omega, by omega, HT4.out, HC4.out, by rw [TabS.drop_base]; exact HB1.out, by rw [TabS.drop_nr]; exact HN1.out, ?_, by omega, HK.out.trans (HK4.out.mono (fun x hx => by omega))⟩
            have := HDD.out
            simp only [if_false, Nat.zero_add, Bool.false_eq_true] at this
            exact this
          case measure => simp [intOf]; omega
      · rw [show T.base + 256 - k = 0 by omega] at hdd
        simp only [TabS.dropN, Nat.add_zero] at hdd
        have HDD := hid hdd
        have hr1 : r < T1.nr := by rw [hn1]; exact hr
        have c7 := hT.c7
        have cs := hT.bs.is r hr1
        have l1 := hT.bt.lt
        have l2 := hT.bs.lt
        have hnr1 := hT.bd.nr
        have SP := hid (hT.bsr r hr1)
        obtain ⟨ao, cap, hv⟩ := SP.out.val
        obtain ⟨n, hn⟩ : ∃ n, (T1.sp r).length = n := ⟨_, rfl⟩
        have hspl := hC.sp_le hr1
        have hcap := hT.bd.cap
        have hheld := hT.bd.held
        rw [hn] at hv hspl
        rw [hv] at cs
        have HNN := hid hn
        have HV := hid hv
        clear hT hC hK hb1 hn1 hdd hv hn
        go_wp2_with (go_at_call 66; refine EN.out.mono ?_; rintro e w2 ⟨rfl, hw'⟩; obtain rfl := hw')
        go_loopw [6, 9] (fun y x w3 => ∃ j : Nat, j ≤ n ∧ y = .int .i64 ((c + (n - j) : Nat)) ∧ x = .slice ao j cap ∧ popN (T1.sp r) tn j = popN (T1.sp r) tn n ∧ TAt w3 lab M { T1 with held := T1.held - (n - j) } ∧ KeptL lab (fun x => x = 6) w2 w3) (fun _ x _ => slLen x)
        case atStart => exact ⟨n, Nat.le_refl _, by rw [Nat.sub_self]; rfl, rfl, rfl, by rw [Nat.sub_self]; exact HT.out, KeptL.refl _ _ _⟩
        case round =>
          obtain ⟨j, hj, rfl, rfl, hpop, hT3, hK3⟩ := hrel
          have HT3 := hid hT3
          have HK3 := hid hK3
          have HPOP := hid hpop
          clear cs c7 l1 l2
          have c7 := hT3.c7
          have cs := hT3.bs.is r hr1
          have fs := hT3.bs.fz r hr1
          have c4 := hT3.c4
          have f4 := hT3.bt.fz 4 (by omega)
          have l1 := hT3.bt.lt
          have l2 := hT3.bs.lt
          have n1 : M.s ≠ M.t := fun e => by have := hT3.ls; rw [e, hT3.lt] at this; omega
          have SP3 := hid (hT3.bsr r hr1)
          cases j with
          | zero =>
            have HP0 := hid (show popN (T1.sp r) tn n = 0 from hpop.symm)
            clear hT3 hK3 hpop
            go_wp2
            go_ret2
            have e1 : d = (c, T1) := HDD.out.symm
            rw [e1]
            simp only
            rw [HNN.out, HP0.out]
            have hS := SP3.out
            rw [show M.sv r = .slice ao n cap from HV.out] at hS
            have hS0 := hS.take HNN.out 0 (by omega)
            refine ⟨{ M with sv := upd M.sv r (.slice ao 0 cap) }, by simp, ?_, HC1.out.cut hr1 _ n (by rw [cutL_len]; simp [HNN.out]), rfl, ?_⟩
            · exact HT3.out.setS (lab' := lab) (l := cutL ((T1.sp r).take 0) tn) hr1 (KeptL.refl _ _ _) (fun _ _ => rfl) (by simpa [cutL] using hS0) (by simp [cutL]) (by simp [cutL])
            · refine KeptL.set (HK.out.trans (HK3.out.mono (fun x hx => by omega))) (Or.inr (Or.inr (Or.inl HT.out.ls))) _
          | succ j =>
            have hjl : j < (T1.sp r).length := by rw [HNN.out]; omega
            have hx : (T1.sp r)[j]? = some (T1.sp r)[j] := List.getElem?_eq_getElem hjl
            generalize (T1.sp r)[j] = x at *
            have hS := SP3.out
            rw [show M.sv r = .slice ao n cap from HV.out] at hS
            obtain ⟨b, cap', hv2, hlc, hbl, q1, q2, q3⟩ := hS.at j x hx
            simp only [Value.slice.injEq] at hv2
            obtain ⟨rfl, -, rfl⟩ := hv2
            rw [HNN.out] at hlc
            rw [show 3 * j = j * 3 by omega] at q1 q2 q3
            have hsl := slice_sp b j (j + 1) cap (by omega) (by omega)
            have hpp : popN (T1.sp r) tn (j + 1) = if tn ≤ x.2.1 then popN (T1.sp r) tn j else j + 1 := by
              simp only [popN, hx]
            rw [hpp] at hpop
            by_cases hfr : tn ≤ x.2.1
            · rw [if_pos hfr] at hpop
              have HP1 := hid hpop
              have bf : decide (tn ≤ x.2.1) = true := by simp; omega
              have h41 : n - (j + 1) + 1 = n - j := by omega
              clear hT3 hK3 hpop hpp hS hx q1 q3
              go_wp2
              go_roundw
              case rel =>
                refine ⟨j, by omega, ?_, rfl, HP1.out, ?_, ?_⟩
                · rw [show ((c + (n - j) : Nat) : Int) = (c : Int) + ((n - (j + 1) : Nat) : Int) + 1 by omega]
                · have h1 := HT3.out.setH (T1.held - (n - j)) (by show T1.held - (n - j) ≤ T1.cap; omega)
                  rw [show ((T1.held - (n - j) : Nat) : Int) = ((T1.held - (n - (j + 1)) : Nat) : Int) - 1 by omega] at h1
                  exact h1
                · exact HK3.out.set HT.out.lt _
              case measure => simp [slLen]
            · rw [if_neg hfr] at hpop
              have HP1 := hid hpop.symm
              have bf : decide (tn ≤ x.2.1) = false := by simp; omega
              have HX := hid hx
              have hxl : ((T1.sp r).take (j + 1))[j]? = some x := by rw [List.getElem?_take, if_pos (by omega)]; exact hx
              have hlen1 : ((T1.sp r).take (j + 1)).length = j + 1 := by simp [HNN.out]; omega
              have hcut : cutL ((T1.sp r).take (j + 1)) tn = if tn < x.2.2 then ((T1.sp r).take (j + 1)).set j (x.1, x.2.1, tn) else (T1.sp r).take (j + 1) := by
                unfold cutL; rw [hlen1]; simp only [Nat.add_sub_cancel, hxl]
              have hS1 := hS.take HNN.out (j + 1) (by omega)
              have HS1 := hid hS1
              have HCUT := hid hcut
              have HXL := hid hxl
              have HLEN1 := hid hlen1
              have hbd : ∀ y, y ∈ cutL ((T1.sp r).take (j + 1)) tn → y.1 < T1.nc ∧ y.2.1 ≤ 2000000000 ∧ y.2.2 ≤ 1099511627776 := fun y hy => by
                obtain ⟨u, hu, e1, e2, e3⟩ := cutL_mem hy
                have := HT.out.bd.sp r u hr1 (List.mem_of_mem_take hu)
                exact ⟨by omega, by omega, by omega⟩
              have HBD := hid hbd
              have hs8 : ((j + 1 : Nat) : Int) > 0 := by omega
              by_cases hun : tn < x.2.2
              · have bu : decide (tn < x.2.2) = true := by simp; omega
                rw [if_pos hun] at HCUT
                obtain ⟨hC1, hC2⟩ := SpAt.cut (t := tn) hS1 hlen1 hxl
                rw [show 3 * j = j * 3 by omega] at hC1 hC2
                have HC8 := hid hC1
                have HC9 := hid hC2
                have fq : wr.frozen? ⟨b, j * 3 + 2, none⟩ = false := by
                  obtain ⟨ao', cap', g1, g2, g3⟩ := hS.ex
                  simp only [Value.slice.injEq] at g1
                  obtain ⟨rfl, -, rfl⟩ := g1
                  rcases g3 with ⟨g3, -⟩ | ⟨b', e, -, hp⟩
                  · cases g3
                  · simp only [Option.some.injEq, Addr.mk.injEq, and_true] at e
                    subst e
                    exact hp.fz _ (by omega)
                have nb : b ≠ M.s ∧ b ≠ M.t := by
                  obtain ⟨ao', cap', g1, g2, g3⟩ := hS.ex
                  simp only [Value.slice.injEq] at g1
                  obtain ⟨rfl, -, rfl⟩ := g1
                  rcases g3 with ⟨g3, -⟩ | ⟨b', e, hlb, hp⟩
                  · cases g3
                  · simp only [Option.some.injEq, Addr.mk.injEq, and_true] at e
                    subst e
                    exact ⟨fun e => by have h5 := hlb.1; rw [e, HT.out.ls] at h5; omega, fun e => by have h5 := hlb.1; rw [e, HT.out.lt] at h5; omega⟩
                clear hT3 hK3 hpop hpp hS hS1 hx hxl hlen1 hcut hbd hC1 hC2
                go_wp2
                go_ret2
                have e1 : d = (c, T1) := HDD.out.symm
                rw [e1]
                simp only
                rw [HNN.out, HP1.out]
                refine ⟨{ M with sv := upd M.sv r (.slice (some ⟨b, 0, none⟩) (j + 1) cap) }, by rw [Int.natCast_add]; rfl, ?_, HC1.out.cut hr1 _ (n - (j + 1)) (by rw [cutL_len, HLEN1.out, HNN.out]; omega), rfl, ?_⟩
                · exact HT3.out.setS (lab' := lab) hr1 HC9.out (fun _ _ => rfl) (by rw [HCUT.out]; exact HC8.out) HBD.out (by rw [cutL_len, HLEN1.out]; omega)
                · refine KeptL.set (KeptL.trans (HK.out.trans (HK3.out.mono (fun x hx => by omega))) (HC9.out.mono (fun x hx => by omega))) (Or.inr (Or.inr (Or.inl HT.out.ls))) _
              · have bu : decide (tn < x.2.2) = false := by simp; omega
                rw [if_neg hun] at HCUT
                clear hT3 hK3 hpop hpp hS hS1 hx hxl hlen1 hcut hbd
                go_wp2
                go_ret2
                have e1 : d = (c, T1) := HDD.out.symm
                rw [e1]
                simp only
                rw [HNN.out, HP1.out]
                refine ⟨{ M with sv := upd M.sv r (.slice (some ⟨b, 0, none⟩) (j + 1) cap) }, by rw [Int.natCast_add]; rfl, ?_, HC1.out.cut hr1 _ (n - (j + 1)) (by rw [cutL_len, HLEN1.out, HNN.out]; omega), rfl, ?_⟩
                · exact HT3.out.setS (lab' := lab) hr1 (KeptL.refl _ _ _) (fun _ _ => rfl) (by rw [HCUT.out]; exact HS1.out) HBD.out (by rw [cutL_len, HLEN1.out]; omega)
                · refine KeptL.set (HK.out.trans (HK3.out.mono (fun x hx => by omega))) (Or.inr (Or.inr (Or.inl HT.out.ls))) _
  · obtain rfl : (tn : Int) = t := hm2
    clear hm1
    go_enter Tryz.func32, Tryz.ntmps32
    go_wp2_with (go_at_call 75; refine VR.out.mono ?_; rintro e w ⟨rfl, rfl⟩)
    go_loopw [6, 8] (fun y x wr => ∃ (k c : Nat) (T1 : TabS), x = .int .i64 (k) ∧ y = .int .i64 (c) ∧ tn ≤ k ∧ (k ≤ T.base + 256 ∨ k = tn) ∧ TAt wr lab M T1 ∧ Con T1 ∧ T1.base = T.base ∧ T1.nr = T.nr ∧ (c + (TabS.dropN r k (T.base + 256 - k) T1).1, (TabS.dropN r k (T.base + 256 - k) T1).2) = d ∧ c + tn ≤ k ∧ KeptL lab (fun x => x = 6 ∨ x = 7 ∨ x = 9 ∨ x = 10 + r ∨ x = 20 + r) w wr) (fun _ x _ => T.base + 256 - (intOf x).toNat)
    case atStart => exact ⟨tn, 0, T, rfl, rfl, Nat.le_refl _, Or.inr rfl, HH.out, HC.out, rfl, rfl, by rw [Nat.zero_add]; exact HD.out, by omega, KeptL.refl _ _ _⟩
    case round =>
      clear c3
      obtain ⟨k, c, T1, rfl, rfl, hk1, hk2, hT, hC, hb1, hn1, hdd, hck, hK⟩ := hrel
      have HT := hid hT
      have HC1 := hid hC
      have HK := hid hK
      have HB1 := hid hb1
      have HN1 := hid hn1
      have EN := hid (end_any M T1 lab wr hT)
      rw [hb1] at EN
      by_cases hlt : k < T.base + 256
      · have hmod : k % 256 < 256 := Nat.mod_lt _ (by omega)
        have DR := hid (drop_any M T1 lab r k _ wr hT (by rw [hn1]; exact hr) (by omega) rfl (fun hp => hC.pos (by rw [hn1]; exact hr) hmod hp))
        rw [show T.base + 256 - k = T.base + 256 - (k + 1) + 1 by omega] at hdd
        simp only [TabS.dropN] at hdd
        have HDD := hid hdd
        have bk : decide ((k : Int) < (T.base : Int) + 256) = true := by simp; omega
        clear hT hC hK hb1 hn1 hdd
        go_wp2_with (first | (go_at_call 66; refine EN.out.mono ?_; rintro e w' ⟨rfl, hw'⟩; obtain rfl := hw') | (go_at_call 67; refine hold ?_))
        unfold Hid
        refine DR.out.mono ?_
        rintro e w4 ⟨rfl, hT4, hK4⟩
        have HT4 := hid hT4
        have HK4 := hid hK4
        have HC4 := hid (HC1.out.drop (by rw [HN1.out]; exact hr) hmod HT.out.bd)
        clear hT4 hK4 DR
        cases hb : (T1.drop r (k % 256)).1 with
        | true =>
          rw [hb] at HDD
          go_wp2
          go_roundw
          case rel =>
            refine ⟨k + 1, c + 1, _, by go_num, by go_num, by omega, by omega, HT4.out, HC4.out, by rw [TabS.drop_base]; exact HB1.out, by rw [TabS.drop_nr]; exact HN1.out, ?_, by omega, HK.out.trans (HK4.out.mono (fun x hx => by omega))⟩
            have := HDD.out
            simp only [if_true, ← Nat.add_assoc] at this
            exact this
          case measure => simp [intOf]; omega
        | false =>
          rw [hb] at HDD
          go_wp2
          go_roundw
          case rel =>
            refine ⟨k + 1, c, _, by go_num, rfl, by omega, by omega, HT4.out, HC4.out, by rw [TabS.drop_base]; exact HB1.out, by rw [TabS.drop_nr]; exact HN1.out, ?_, by omega, HK.out.trans (HK4.out.mono (fun x hx => by omega))⟩
            have := HDD.out
            simp only [if_false, Nat.zero_add, Bool.false_eq_true] at this
            exact this
          case measure => simp [intOf]; omega
      · rw [show T.base + 256 - k = 0 by omega] at hdd
        simp only [TabS.dropN, Nat.add_zero] at hdd
        have HDD := hid hdd
        have hr1 : r < T1.nr := by rw [hn1]; exact hr
        have c7 := hT.c7
        have cs := hT.bs.is r hr1
        have l1 := hT.bt.lt
        have l2 := hT.bs.lt
        have hnr1 := hT.bd.nr
        have SP := hid (hT.bsr r hr1)
        obtain ⟨ao, cap, hv⟩ := SP.out.val
        obtain ⟨n, hn⟩ : ∃ n, (T1.sp r).length = n := ⟨_, rfl⟩
        have hspl := hC.sp_le hr1
        have hcap := hT.bd.cap
        have hheld := hT.bd.held
        rw [hn] at hv hspl
        rw [hv] at cs
        have HNN := hid hn
        have HV := hid hv
        clear hT hC hK hb1 hn1 hdd hv hn
        go_wp2_with (go_at_call 66; refine EN.out.mono ?_; rintro e w2 ⟨rfl, hw'⟩; obtain rfl := hw')
        go_loopw [6, 9] (fun y x w3 => ∃ j : Nat, j ≤ n ∧ y = .int .i64 ((c + (n - j) : Nat)) ∧ x = .slice ao j cap ∧ popN (T1.sp r) tn j = popN (T1.sp r) tn n ∧ TAt w3 lab M { T1 with held := T1.held - (n - j) } ∧ KeptL lab (fun x => x = 6) w2 w3) (fun _ x _ => slLen x)
        case atStart => exact ⟨n, Nat.le_refl _, by rw [Nat.sub_self]; rfl, rfl, rfl, by rw [Nat.sub_self]; exact HT.out, KeptL.refl _ _ _⟩
        case round =>
          obtain ⟨j, hj, rfl, rfl, hpop, hT3, hK3⟩ := hrel
          have HT3 := hid hT3
          have HK3 := hid hK3
          have HPOP := hid hpop
          clear cs c7 l1 l2
          have c7 := hT3.c7
          have cs := hT3.bs.is r hr1
          have fs := hT3.bs.fz r hr1
          have c4 := hT3.c4
          have f4 := hT3.bt.fz 4 (by omega)
          have l1 := hT3.bt.lt
          have l2 := hT3.bs.lt
          have n1 : M.s ≠ M.t := fun e => by have := hT3.ls; rw [e, hT3.lt] at this; omega
          have SP3 := hid (hT3.bsr r hr1)
          cases j with
          | zero =>
            have HP0 := hid (show popN (T1.sp r) tn n = 0 from hpop.symm)
            clear hT3 hK3 hpop
            go_wp2
            go_ret2
            have e1 : d = (c, T1) := HDD.out.symm
            rw [e1]
            simp only
            rw [HNN.out, HP0.out]
            have hS := SP3.out
            rw [show M.sv r = .slice ao n cap from HV.out] at hS
            have hS0 := hS.take HNN.out 0 (by omega)
            refine ⟨{ M with sv := upd M.sv r (.slice ao 0 cap) }, by simp, ?_, HC1.out.cut hr1 _ n (by rw [cutL_len]; simp [HNN.out]), rfl, ?_⟩
            · exact HT3.out.setS (lab' := lab) (l := cutL ((T1.sp r).take 0) tn) hr1 (KeptL.refl _ _ _) (fun _ _ => rfl) (by simpa [cutL] using hS0) (by simp [cutL]) (by simp [cutL])
            · refine KeptL.set (HK.out.trans (HK3.out.mono (fun x hx => by omega))) (Or.inr (Or.inr (Or.inl HT.out.ls))) _
          | succ j =>
            have hjl : j < (T1.sp r).length := by rw [HNN.out]; omega
            have hx : (T1.sp r)[j]? = some (T1.sp r)[j] := List.getElem?_eq_getElem hjl
            generalize (T1.sp r)[j] = x at *
            have hS := SP3.out
            rw [show M.sv r = .slice ao n cap from HV.out] at hS
            obtain ⟨b, cap', hv2, hlc, hbl, q1, q2, q3⟩ := hS.at j x hx
            simp only [Value.slice.injEq] at hv2
            obtain ⟨rfl, -, rfl⟩ := hv2
            rw [HNN.out] at hlc
            rw [show 3 * j = j * 3 by omega] at q1 q2 q3
            have hsl := slice_sp b j (j + 1) cap (by omega) (by omega)
            have hpp : popN (T1.sp r) tn (j + 1) = if tn ≤ x.2.1 then popN (T1.sp r) tn j else j + 1 := by
              simp only [popN, hx]
            rw [hpp] at hpop
            by_cases hfr : tn ≤ x.2.1
            · rw [if_pos hfr] at hpop
              have HP1 := hid hpop
              have bf : decide (tn ≤ x.2.1) = true := by simp; omega
              have h41 : n - (j + 1) + 1 = n - j := by omega
              clear hT3 hK3 hpop hpp hS hx q1 q3
              go_wp2
              go_roundw
              case rel =>
                refine ⟨j, by omega, ?_, rfl, HP1.out, ?_, ?_⟩
                · rw [show ((c + (n - j) : Nat) : Int) = (c : Int) + ((n - (j + 1) : Nat) : Int) + 1 by omega]
                · have h1 := HT3.out.setH (T1.held - (n - j)) (by show T1.held - (n - j) ≤ T1.cap; omega)
                  rw [show ((T1.held - (n - j) : Nat) : Int) = ((T1.held - (n - (j + 1)) : Nat) : Int) - 1 by omega] at h1
                  exact h1
                · exact HK3.out.set HT.out.lt _
              case measure => simp [slLen]
            · rw [if_neg hfr] at hpop
              have HP1 := hid hpop.symm
              have bf : decide (tn ≤ x.2.1) = false := by simp; omega
              have HX := hid hx
              have hxl : ((T1.sp r).take (j + 1))[j]? = some x := by rw [List.getElem?_take, if_pos (by omega)]; exact hx
              have hlen1 : ((T1.sp r).take (j + 1)).length = j + 1 := by simp [HNN.out]; omega
              have hcut : cutL ((T1.sp r).take (j + 1)) tn = if tn < x.2.2 then ((T1.sp r).take (j + 1)).set j (x.1, x.2.1, tn) else (T1.sp r).take (j + 1) := by
                unfold cutL; rw [hlen1]; simp only [Nat.add_sub_cancel, hxl]
              have hS1 := hS.take HNN.out (j + 1) (by omega)
              have HS1 := hid hS1
              have HCUT := hid hcut
              have HXL := hid hxl
              have HLEN1 := hid hlen1
              have hbd : ∀ y, y ∈ cutL ((T1.sp r).take (j + 1)) tn → y.1 < T1.nc ∧ y.2.1 ≤ 2000000000 ∧ y.2.2 ≤ 1099511627776 := fun y hy => by
                obtain ⟨u, hu, e1, e2, e3⟩ := cutL_mem hy
                have := HT.out.bd.sp r u hr1 (List.mem_of_mem_take hu)
                exact ⟨by omega, by omega, by omega⟩
              have HBD := hid hbd
              have hs8 : ((j + 1 : Nat) : Int) > 0 := by omega
              by_cases hun : tn < x.2.2
              · have bu : decide (tn < x.2.2) = true := by simp; omega
                rw [if_pos hun] at HCUT
                obtain ⟨hC1, hC2⟩ := SpAt.cut (t := tn) hS1 hlen1 hxl
                rw [show 3 * j = j * 3 by omega] at hC1 hC2
                have HC8 := hid hC1
                have HC9 := hid hC2
                have fq : wr.frozen? ⟨b, j * 3 + 2, none⟩ = false := by
                  obtain ⟨ao', cap', g1, g2, g3⟩ := hS.ex
                  simp only [Value.slice.injEq] at g1
                  obtain ⟨rfl, -, rfl⟩ := g1
                  rcases g3 with ⟨g3, -⟩ | ⟨b', e, -, hp⟩
                  · cases g3
                  · simp only [Option.some.injEq, Addr.mk.injEq, and_true] at e
                    subst e
                    exact hp.fz _ (by omega)
                have nb : b ≠ M.s ∧ b ≠ M.t := by
                  obtain ⟨ao', cap', g1, g2, g3⟩ := hS.ex
                  simp only [Value.slice.injEq] at g1
                  obtain ⟨rfl, -, rfl⟩ := g1
                  rcases g3 with ⟨g3, -⟩ | ⟨b', e, hlb, hp⟩
                  · cases g3
                  · simp only [Option.some.injEq, Addr.mk.injEq, and_true] at e
                    subst e
                    exact ⟨fun e => by have h5 := hlb.1; rw [e, HT.out.ls] at h5; omega, fun e => by have h5 := hlb.1; rw [e, HT.out.lt] at h5; omega⟩
                clear hT3 hK3 hpop hpp hS hS1 hx hxl hlen1 hcut hbd hC1 hC2
                go_wp2
                go_ret2
                have e1 : d = (c, T1) := HDD.out.symm
                rw [e1]
                simp only
                rw [HNN.out, HP1.out]
                refine ⟨{ M with sv := upd M.sv r (.slice (some ⟨b, 0, none⟩) (j + 1) cap) }, by rw [Int.natCast_add]; rfl, ?_, HC1.out.cut hr1 _ (n - (j + 1)) (by rw [cutL_len, HLEN1.out, HNN.out]; omega), rfl, ?_⟩
                · exact HT3.out.setS (lab' := lab) hr1 HC9.out (fun _ _ => rfl) (by rw [HCUT.out]; exact HC8.out) HBD.out (by rw [cutL_len, HLEN1.out]; omega)
                · refine KeptL.set (KeptL.trans (HK.out.trans (HK3.out.mono (fun x hx => by omega))) (HC9.out.mono (fun x hx => by omega))) (Or.inr (Or.inr (Or.inl HT.out.ls))) _
              · have bu : decide (tn < x.2.2) = false := by simp; omega
                rw [if_neg hun] at HCUT
                clear hT3 hK3 hpop hpp hS hS1 hx hxl hlen1 hcut hbd
                go_wp2
                go_ret2
                have e1 : d = (c, T1) := HDD.out.symm
                rw [e1]
                simp only
                rw [HNN.out, HP1.out]
                refine ⟨{ M with sv := upd M.sv r (.slice (some ⟨b, 0, none⟩) (j + 1) cap) }, by rw [Int.natCast_add]; rfl, ?_, HC1.out.cut hr1 _ (n - (j + 1)) (by rw [cutL_len, HLEN1.out, HNN.out]; omega), rfl, ?_⟩
                · exact HT3.out.setS (lab' := lab) hr1 (KeptL.refl _ _ _) (fun _ _ => rfl) (by rw [HCUT.out]; exact HS1.out) HBD.out (by rw [cutL_len, HLEN1.out]; omega)
                · refine KeptL.set (HK.out.trans (HK3.out.mono (fun x hx => by omega))) (Or.inr (Or.inr (Or.inl HT.out.ls))) _
end Go.Proofs.Qxb6500717aGreat
