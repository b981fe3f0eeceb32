/-
  IsTimedWalk, Dirs, Drive, sameCells: the walks.
-/
import Derived.Test.Qxb6500715aDoorDir
namespace Go.Proofs.Qxb6500715aDoor
open Go.RowKit
set_option linter.unusedSimpArgs false
set_option linter.unusedVariables false


theorem isTimed_ok (F : FP) (sb cb g m cp : Nat) (T : List Nat) (w : World) (h : FlN w F) (hl : Lnk w F sb cb) (hN : F.N ≤ 384) (hg : g < w.heap.size) (hT : Wlk F T) (hm : T.length = m) (h1 : 1 ≤ m) (h2 : m ≤ 100000) (hr : RowIs w g T) :
    Calls Tryd.prog 57 #[.pointer (some ⟨F.fb, 0, none⟩), .slice (some ⟨g, 0, none⟩) m cp] w fun e w' => e = .returned (.bool true) ∧ w' = w := by
  have hc := checkWalk_ok F sb cb g m cp T true w h hl hN hg hT hm h1 h2 hr
  clear h hl hT hm hr
  go_enter Tryd.func57, Tryd.ntmps57
  go_wp2_with (go_at_call 55; refine hc.mono ?_; rintro e w' ⟨rfl, rfl⟩)
  go_ret
  exact ⟨rfl, rfl⟩

set_option maxHeartbeats 1000000 in
theorem sameCells_ok (g1 g2 m cp1 cp2 : Nat) (T : List Nat) (w : World) (hg1 : g1 < w.heap.size) (hg2 : g2 < w.heap.size) (hm : T.length = m) (h2 : m ≤ 100000) (hr1 : RowIs w g1 T) (hr2 : RowIs w g2 T) :
    Calls Tryd.prog 28 #[.slice (some ⟨g1, 0, none⟩) m cp1, .slice (some ⟨g2, 0, none⟩) m cp2] w fun e w' => e = .returned (.bool true) ∧ ∃ z, w' = w.ext z := by
  have HR1 := hid hr1
  have HR2 := hid hr2
  have HM := hid hm
  clear hr1 hr2 hm
  go_enter Tryd.func28, Tryd.ntmps28
  go_wp2
  go_loopw [13] (fun x wr => ∃ t : Nat, x = .int .i64 (t) ∧ t ≤ m ∧ Below w.heap.size w wr) (fun x _ => m - (intOf x).toNat)
  case atStart => exact ⟨0, rfl, Nat.zero_le _, Below.rf _⟩
  case round =>
    obtain ⟨t, rfl, ht, hB⟩ := hrel
    have HB := hid hB
    have hsz := hB.size
    by_cases hlt : t < m
    · have hta : t < T.length := by rw [HM.out]; exact hlt
      have hct : T[t]? = some T[t] := List.getElem?_eq_getElem hta
      generalize T[t] = c at hct
      have c1 := cell_below hB hg1 (HR1.out t c hct)
      have c2 := cell_below hB hg2 (HR2.out t c hct)
      have bt : decide ((t : Int) < m) = true := by simp; omega
      clear hct hta hB
      go_wp2
      first | with_reducible refine wp_region_ext2 (by kernel_rfl) (by kernel_rfl) ?_ | refine wp_region_ext (by kernel_rfl) (by kernel_rfl) ?_
      repeat (go_big_quiet_step (fail))
      refine wpQuiet_nil ?_
      rintro _ ⟨z, rfl⟩
      go_wp2
      go_roundw
      case rel => exact ⟨t + 1, by go_num, by omega, HB.out.ex _⟩
      case measure => simp [intOf]; omega
    · clear hB
      go_wp2
      go_ret
      exact ⟨rfl, HB.out.is_ext⟩

/-- The moves of a walk. -/
def FP.dl (F : FP) (T : List Nat) (k : Nat) : List Nat := (List.range k).map fun j => F.dir (T.getD j 0) (T.getD (j + 1) 0)
theorem dl_succ (F : FP) (T : List Nat) (k : Nat) : F.dl T (k + 1) = F.dl T k ++ [F.dir (T.getD k 0) (T.getD (k + 1) 0)] := by simp [FP.dl, List.range_succ]
theorem dl_len (F : FP) (T : List Nat) (k : Nat) : (F.dl T k).length = k := by simp [FP.dl]

def dirsPost (F : FP) (T : List Nat) (k : Nat) (w : World) (e : Ending) (w' : World) : Prop :=
  ∃ g2 : Nat, e = .returned (.tuple #[.slice (some ⟨g2, 0, none⟩) k k, .bool true]) ∧ Pad w' g2 k (idRow (F.dl T k)) ∧ ∃ z, w' = w.ext z

set_option maxRecDepth 20000 in
set_option maxHeartbeats 2000000 in
theorem dirs_any (F : FP) (sb cb g m k cp : Nat) (T : List Nat) (w : World) (h : FlN w F) (hl : Lnk w F sb cb) (hN : F.N ≤ 384) (hg : g < w.heap.size) (hT : Wlk F T) (hm : T.length = m) (hk : m = k + 1) (h2 : m ≤ 1000) (hr : RowIs w g T) :
    Calls Tryd.prog 26 #[.pointer (some ⟨F.fb, 0, none⟩), .slice (some ⟨g, 0, none⟩) m cp] w (dirsPost F T k w) := by
  have HT57 := hid (isTimed_ok F sb cb g m cp T w h hl hN hg hT hm (by omega) (by omega) hr)
  have HH := hid h
  have HL := hid hl
  have HT := hid hT
  have HR := hid hr
  have HM := hid hm
  obtain ⟨Z, hZ, hmk⟩ := make_cap (P := Tryd.prog) 44 100 (.int .i64 0) 1 8 Tryd.underlying44 (by kernel_rfl) k (by omega) (by omega)
  have hmk' : ∀ (kl kc : IntKind) (w : World), (Instr.makeSlice 44 (.int kl 0) (.int kc ((m : Int) - 1))).run Tryd.prog w = .ok (.slice (some ⟨w.heap.size, 0, none⟩) 0 k) (w.alloc (.cells Z 100)) := by
    intro kl kc w; have := hmk kl kc w; rw [show (k : Int) = (m : Int) - 1 by omega] at this; exact this
  have hk1 : k + 1 ≤ m ∧ m ≤ k + 1 := by omega
  clear h hl hT hr hm hmk hk
  go_enter Tryd.func26, Tryd.ntmps26
  go_wp2_with (go_at_call 57; refine HT57.out.mono ?_; rintro e w ⟨rfl, rfl⟩)
  obtain ⟨g2, hg2⟩ : ∃ x, w.heap.size = x := ⟨_, rfl⟩
  have hp0 : Pad (w.alloc (.cells Z 100)) g2 k (idRow (F.dl T 0)) := Pad.made w Z 100 k g2 _ hg2.symm (by omega) (by simp [idRow, FP.dl]) (by simp [idRow, FP.dl])
  rw [hg2]
  have HG2 := hid hg2
  have hB0 : Below w.heap.size w (w.alloc (.cells Z 100)) := by (repeat (first | with_reducible exact Below.rf _ | with_reducible exact World.below_ext _ _ | with_reducible refine Below.ex ?_ _ | with_reducible refine Below.al ?_ _ | with_reducible refine Below.setCell ?_ (by simp) _ | with_reducible refine Below.drew ?_))
  have HP0 := hid hp0
  have HB0 := hid hB0
  clear hp0 hB0 hmk' HT57 hg2
  go_loopw [6, 7] (fun v x wr => ∃ j : Nat, v = .slice (some ⟨g2, 0, none⟩) j k ∧ x = .int .i64 ((j : Int) + 1) ∧ j ≤ k ∧ Pad wr g2 k (idRow (F.dl T j)) ∧ Below w.heap.size w wr) (fun _ x _ => m - (intOf x).toNat)
  case atStart => exact ⟨0, rfl, rfl, Nat.zero_le _, HP0.out, HB0.out⟩
  case round =>
    obtain ⟨j, rfl, rfl, hj, hP, hB⟩ := hrel
    have HP := hid hP
    have HB := hid hB
    have hsz := hB.size
    have hgl := hP.lt
    by_cases hlt : j < k
    · have hja : j + 1 < T.length := by rw [HM.out]; omega
      have e1 : T[j]? = some (T.getD j 0) := by rw [List.getD_eq_getElem?_getD, List.getElem?_eq_getElem (by omega)]; rfl
      have e2 : T[j + 1]? = some (T.getD (j + 1) 0) := by rw [List.getD_eq_getElem?_getD, List.getElem?_eq_getElem hja]; rfl
      have hds := dl_succ F T j
      generalize T.getD j 0 = x at *
      generalize T.getD (j + 1) 0 = y at *
      have hxN := HT.out.lt _ _ e1
      have hyN := HT.out.lt _ _ e2
      have hadj := HT.out.ad _ _ _ e1 e2
      have c1 := cell_below hB hg (HR.out _ _ e1)
      have c2 := cell_below hB hg (HR.out _ _ e2)
      have hF := HH.out.below hB
      have hLk := HL.out.below hB
      obtain ⟨d, hd⟩ : ∃ d, F.dir x y = d := ⟨_, rfl⟩
      have HD := hid (fun w' (h1 : FlN w' F) (h2 : Lnk w' F sb cb) => dirTo_near F sb cb x y w' h1 h2 hN hxN hyN (Or.inr hadj))
      rw [hd] at HD hds
      have HDS := hid hds
      have bt : decide ((j : Int) + 1 < m) = true := by simp; omega
      clear e1 e2 hds hP hB hadj hd hja
      go_wp2
      first | with_reducible refine wp_region_ext2 (by kernel_rfl) (by kernel_rfl) ?_ | refine wp_region_ext (by kernel_rfl) (by kernel_rfl) ?_
      repeat (go_big_quiet_step ((go_at_call 58; exact Calls.ext_of (HD.out _ (hF.ex _) (hLk.ex _)))))
      refine wpQuiet_nil ?_
      rintro _ ⟨z, rfl⟩
      go_wp2_with (at_builtin; refine hold ?_)
      unfold Hid
      have hil : (idRow (F.dl T j)).length = j := by simp [idRow, dl_len]
      refine wp_pad rfl _ _ 44 rfl 100 (.int .i64 0) 1 8 Tryd.underlying44 (by kernel_rfl) g2 j k k (idRow (F.dl T j)) rfl (HP.out.below (by (repeat (first | with_reducible exact Below.rf _ | with_reducible exact World.below_ext _ _ | with_reducible refine Below.ex ?_ _ | with_reducible refine Below.al ?_ _ | with_reducible refine Below.setCell ?_ (by simp) _ | with_reducible refine Below.drew ?_)))) (by omega) _ 0 1 1 [.int .i64 (d)] rfl rfl ?_ (by simp [Value.oneCell']) (by omega) (by omega) ?_
      · intro j u hj; simp [go_sem, ↓IntWalk.iteOmega]; simpa using hj
      intro w6 hp6 hk6 hs6
      have hB6 : Below w.heap.size w w6 := KeptBut.below_of (HB.out.trans (Below.mono (by (repeat (first | with_reducible exact Below.rf _ | with_reducible exact World.below_ext _ _ | with_reducible refine Below.ex ?_ _ | with_reducible refine Below.al ?_ _ | with_reducible refine Below.setCell ?_ (by simp) _ | with_reducible refine Below.drew ?_))) hsz)) hk6 (by rw [HG2.out]; exact Nat.le_refl _)
      have hp7 : Pad w6 g2 k (idRow (F.dl T (j + 1))) := by
        rw [HDS.out]; unfold idRow at hp6 ⊢; rw [List.map_append]; exact hp6
      have HP7 := hid hp7
      have HB6 := hid hB6
      clear hp6 hk6 hs6 hB6 hp7
      go_wp2
      go_roundw
      case rel => exact ⟨j + 1, rfl, by go_num, by omega, HP7.out, HB6.out⟩
      case measure => simp [intOf]; omega
    · obtain rfl : j = k := by omega
      clear hP hB
      go_wp2
      go_ret2
      exact ⟨g2, rfl, HP.out, HB.out.is_ext⟩

def drivePost (T : List Nat) (m : Nat) (w : World) (e : Ending) (w' : World) : Prop :=
  ∃ g3 : Nat, e = .returned (.tuple #[.slice (some ⟨g3, 0, none⟩) m m, .bool true]) ∧ g3 < w'.heap.size ∧ RowIs w' g3 T ∧ ∃ z, w' = w.ext z

set_option maxRecDepth 20000 in
set_option maxHeartbeats 2000000 in
theorem drive_any (F : FP) (a g2 m k cp : Nat) (T : List Nat) (w : World) (h : FlN w F) (hN : F.N ≤ 384) (hT : Wlk F T) (h0 : T[0]? = some a) (hm : T.length = m) (hk : k + 1 ≤ m ∧ m ≤ k + 1) (h2 : m ≤ 1000) (hpd : Pad w g2 k (idRow (F.dl T k))) :
    Calls Tryd.prog 27 #[.pointer (some ⟨F.fb, 0, none⟩), .int .i64 (a), .slice (some ⟨g2, 0, none⟩) k cp] w (drivePost T m w) := by
  have HH := hid h
  have HT := hid hT
  have HPD := hid hpd
  have HM := hid hm
  have hg2 := hpd.lt
  have ha := hT.lt _ _ h0
  obtain ⟨Z, hZ, hmk⟩ := make_one (P := Tryd.prog) 31 28 (.int .i64 0) 1 8 Tryd.underlying31 (by kernel_rfl) m (by omega) (by omega) (by omega)
  have hmk' : ∀ (kl kc : IntKind) (w : World), (Instr.makeSlice 31 (.int kl 1) (.int kc ((k : Int) + 1))).run Tryd.prog w = .ok (.slice (some ⟨w.heap.size, 0, none⟩) 1 m) (w.alloc (.cells Z 28)) := by
    intro kl kc w; have := hmk kl kc w; rw [show (m : Int) = (k : Int) + 1 by omega] at this; exact this
  have H0 := hid h0
  obtain ⟨v0, hv0⟩ : ∃ v0, Z[0]? = some v0 := ⟨_, Array.getElem?_eq_getElem (by omega)⟩
  clear h hT hm hmk h0 hpd
  go_enter Tryd.func27, Tryd.ntmps27
  go_wp2_with (go_at_call 50; refine (valid_yes F a _ HH.out ha).mono ?_; rintro e w ⟨rfl, rfl⟩)
  obtain ⟨g3, hg3⟩ : ∃ x, w.heap.size = x := ⟨_, rfl⟩
  have hp0 : Pad (w.alloc (.cells (Z.setIfInBounds 0 (.int .i64 (a))) 28)) g3 m (idRow (T.take 1)) := by
    have ht : T.take 1 = [a] := by
      have hh := H0.out
      cases T with
      | nil => simp at hh
      | cons x T => simp at hh; simp [hh]
    rw [ht]
    refine Pad.made w _ 28 m g3 _ hg3.symm (by simp; omega) (by simp [idRow]; omega) ?_
    intro j u hu
    have hj := (List.getElem?_eq_some_iff.1 hu).1
    simp [idRow] at hj
    subst hj
    have hu2 : (.int .i64 (a)) = u := by simpa [idRow] using hu
    rw [← hu2, Array.getElem?_setIfInBounds_self_of_lt (by omega)]
  have HP0 := hid hp0
  have HG3 := hid hg3
  have hB0 : Below w.heap.size w (w.alloc (.cells (Z.setIfInBounds 0 (.int .i64 (a))) 28)) := by (repeat (first | with_reducible exact Below.rf _ | with_reducible exact World.below_ext _ _ | with_reducible refine Below.ex ?_ _ | with_reducible refine Below.al ?_ _ | with_reducible refine Below.setCell ?_ (by simp) _ | with_reducible refine Below.drew ?_))
  have HB0 := hid hB0
  rw [hg3] at hg2 ⊢
  clear hp0 hB0 hmk' hg3
  go_loopw [8, 9, 28] (fun v y x wr => ∃ (j c : Nat), v = .slice (some ⟨g3, 0, none⟩) (j + 1) m ∧ x = .int .i64 (j) ∧ y = .int .i64 (c) ∧ j ≤ k ∧ T[j]? = some c ∧ Pad wr g3 m (idRow (T.take (j + 1))) ∧ Below w.heap.size w wr) (fun _ _ x _ => k - (intOf x).toNat)
  case atStart => exact ⟨0, a, rfl, rfl, rfl, Nat.zero_le _, H0.out, HP0.out, HB0.out⟩
  case round =>
    clear HP0 HB0
    obtain ⟨j, c, rfl, rfl, rfl, hj, hc, hP, hB⟩ := hrel
    have HP := hid hP
    have HB := hid hB
    have hsz := hB.size
    by_cases hlt : j < k
    · have hja : j + 1 < T.length := by rw [HM.out]; omega
      have e2 : T[j + 1]? = some (T.getD (j + 1) 0) := by rw [List.getD_eq_getElem?_getD, List.getElem?_eq_getElem hja]; rfl
      have e1 : T.getD j 0 = c := by rw [List.getD_eq_getElem?_getD, hc]; rfl
      have htk : T.take (j + 1 + 1) = T.take (j + 1) ++ [T.getD (j + 1) 0] := by
        rw [List.take_add_one, e2]; rfl
      have hdv : (idRow (F.dl T k))[j]? = some (.int .i64 (F.dir c (T.getD (j + 1) 0))) := by
        simp [idRow, FP.dl, hlt, hc]
      generalize T.getD (j + 1) 0 = y at *
      have hcN := HT.out.lt _ _ hc
      have hyN := HT.out.lt _ _ e2
      have hadj := HT.out.ad _ _ _ hc e2
      have hF := HH.out.below hB
      obtain ⟨d, hd⟩ : ∃ d, F.dir c y = d := ⟨_, rfl⟩
      rw [hd] at hdv
      have cd := cell_below hB (by rw [HG3.out]; exact hg2) (HPD.out.is _ _ hdv)
      have HST := hid (step_adj F c y d wr hF hcN hadj hd)
      have HE2 := hid e2
      have HTK := hid htk
      have bt : decide ((j : Int) < k) = true := by simp; omega
      clear hP hB e2 e1 htk hdv hadj hd hc hja
      go_wp2_with (first | (go_at_call 59; refine HST.out.mono ?_; rintro e w' ⟨rfl, z1, rfl⟩) | (at_builtin; refine hold ?_))
      unfold Hid
      have hil : (idRow (T.take (j + 1))).length = j + 1 := by simp [idRow, HM.out]; omega
      refine wp_pad rfl _ _ 31 rfl 28 (.int .i64 0) 1 8 Tryd.underlying31 (by kernel_rfl) g3 (j + 1) m m (idRow (T.take (j + 1))) rfl (HP.out.below (by (repeat (first | with_reducible exact Below.rf _ | with_reducible exact World.below_ext _ _ | with_reducible refine Below.ex ?_ _ | with_reducible refine Below.al ?_ _ | with_reducible refine Below.setCell ?_ (by simp) _ | with_reducible refine Below.drew ?_)))) (by omega) _ 0 1 1 [.int .i64 (y)] rfl rfl ?_ (by simp [Value.oneCell']) (by omega) (by omega) ?_
      · intro j u hj; simp [go_sem, ↓IntWalk.iteOmega]; simpa using hj
      intro w6 hp6 hk6 hs6
      have hB6 : Below w.heap.size w w6 := KeptBut.below_of (HB.out.trans (Below.mono (by (repeat (first | with_reducible exact Below.rf _ | with_reducible exact World.below_ext _ _ | with_reducible refine Below.ex ?_ _ | with_reducible refine Below.al ?_ _ | with_reducible refine Below.setCell ?_ (by simp) _ | with_reducible refine Below.drew ?_))) hsz)) hk6 (by rw [HG3.out]; exact Nat.le_refl _)
      have hp7 : Pad w6 g3 m (idRow (T.take (j + 1 + 1))) := by
        rw [HTK.out]; unfold idRow at hp6 ⊢; rw [List.map_append]; exact hp6
      have HP7 := hid hp7
      have HB6 := hid hB6
      clear hp6 hk6 hs6 hB6 hp7
      go_wp2
      go_roundw
      case rel => exact ⟨j + 1, y, rfl, by go_num, rfl, by omega, HE2.out, HP7.out, HB6.out⟩
      case measure => simp [intOf]; omega
    · obtain rfl : j = k := by omega
      have hjm : j + 1 = m := by omega
      clear hP hB
      go_wp2
      go_ret2
      refine ⟨g3, by rw [hjm]; rfl, HP.out.lt, ?_, HB.out.is_ext⟩
      intro i c hc
      have := HP.out.is i (.int .i64 (c)) (by rw [List.take_of_length_le (by rw [HM.out]; omega)]; simp [idRow, hc])
      exact this
end Go.Proofs.Qxb6500715aDoor
