/-
  movesAgree: the walk.
-/
import Derived.Test.Qxb6500715aDoorHelp2
import Derived.Test.Qxb6500715aDoorLaw7

namespace Go.Proofs.Qxb6500715aDoor
open Go.RowKit
set_option linter.unusedSimpArgs false
set_option linter.unusedVariables false

theorem int_eq {x y : Nat} (h : x = y) : Value.int .i64 (x : Int) = .int .i64 (y : Int) := by rw [h]

theorem dir_self (F : FP) (a : Nat) : F.dir a a = 0 := by simp [FP.dir, dirOf]

/-- What DirTo and Step say of two cells. -/
theorem near_ex (F : FP) (sb cb a b : Nat) (hp : Pln F) (hN : F.N ≤ 384) (ha : a < F.N) (hb : b < F.N) : ∃ (x d c : Nat) (nr : Bool),
    nr = decide (a = b ∨ b ∈ F.adj a) ∧ (nr = true → c = b) ∧ d ≤ 4 ∧
    (∀ w, FlN w F → Lnk w F sb cb → Calls Tryd.prog 58 #[.pointer (some ⟨F.fb, 0, none⟩), .int .i64 (a), .int .i64 (b)] w fun e w' => e = .returned (.tuple #[.int .i64 (d), .bool nr]) ∧ ∃ z, w' = w.ext z) ∧
    (∀ w, FlN w F → Calls Tryd.prog 59 #[.pointer (some ⟨F.fb, 0, none⟩), .int .i64 (a), .int .i64 (d)] w fun e w' => e = .returned (.tuple #[.int .i64 (c), .bool true]) ∧ ∃ z, w' = w.ext z) := by
  by_cases hab : a = b
  · subst hab
    refine ⟨0, 0, a, true, (decide_eq_true (Or.inl rfl)).symm, fun _ => rfl, by omega, fun w h hl => ?_, fun w h => step_zero F a w h ha⟩
    have := dirTo_near F sb cb a a w h hl hN ha ha (Or.inl rfl)
    rw [dir_self] at this
    exact this
  · by_cases hadj : b ∈ F.adj a
    · exact ⟨0, F.dir a b, b, true, (decide_eq_true (Or.inr hadj)).symm, fun _ => rfl, dirOf_le _ _ _ _, fun w h hl => dirTo_near F sb cb a b w h hl hN ha hb (Or.inr hadj), fun w h => step_adj F a b _ w h ha hadj rfl⟩
    · have hf : ¬ (a = b ∨ b ∈ F.adj a) := fun h => h.elim hab hadj
      exact ⟨0, 0, a, false, (decide_eq_false hf).symm, (fun h => by cases h), by omega, fun w h hl => dirTo_far F sb cb a b w h hl hN ha hb hf, fun w h => step_zero F a w h ha⟩

set_option maxRecDepth 20000 in
set_option maxHeartbeats 4000000 in
theorem movesAgree_any (F : FP) (sb cb tb db NN : Nat) (dist : Nat → Nat → Int) (dia : Int) (D : Array Value) (w : World) (h : Flo w F sb cb tb db NN dist dia D) :
    Calls Tryd.prog 44 #[.pointer (some ⟨F.fb, 0, none⟩)] w fun e w' => e = .returned (.bool true) ∧ ∃ z, w' = w.ext z := by
  have HH := hid h
  have hN := h.hN
  have hp := h.fl.pln
  have HP := hid hp
  obtain ⟨hdp, -, -⟩ := depot_spec hp
  obtain ⟨dep, hdep⟩ : ∃ dep, F.id (F.W + F.c) = dep := ⟨_, rfl⟩
  have HDEP := hid hdep
  rw [hdep] at hdp
  have hdc : Hid (∀ w', FlN w' F → Calls Tryd.prog 32 #[.pointer (some ⟨F.fb, 0, none⟩)] w' fun e w'' => e = .returned (.int .i64 (dep)) ∧ w'' = w') := fun w' h' => hdep ▸ depot_any F w' h'
  have hele : ∀ a, a < F.N → ∀ k, k ≤ F.N → F.ecc a k ≤ 384 := by
    intro a ha k
    induction k with
    | zero => intro _; exact Nat.zero_le _
    | succ k ih => intro hk; have := ih (by omega); have := (h.dst ha (show k < F.N by omega)).2.2; simp only [FP.ecc]; omega
  have HEL := hid hele
  clear h hele hdep hp
  go_enter Tryd.func44, Tryd.ntmps44
  go_wp2_with (go_at_call 13; refine (cells_any F _ HH.out.fl).mono ?_; rintro e w ⟨rfl, rfl⟩)
  go_loopw [4] (fun x wr => ∃ a : Nat, a ≤ F.N ∧ x = .int .i64 (a) ∧ Below w.heap.size w wr) (fun x _ => F.N - (intOf x).toNat)
  case atStart => exact ⟨0, Nat.zero_le _, rfl, Below.rf _⟩
  case round =>
    obtain ⟨a, ha, rfl, hB⟩ := hrel
    have HB := hid hB
    have hsz := hB.size
    by_cases hla : a < F.N
    · have hFl := HH.out.below hB
      have ba : decide ((a : Int) < F.N) = true := by simp; omega
      obtain ⟨la, hla2⟩ : ∃ la, (F.adj a).length = la := ⟨_, rfl⟩
      obtain ⟨no, hno⟩ : ∃ no, F.no a = no := ⟨_, rfl⟩
      have hla4 : la ≤ 4 := by rw [← hla2]; exact F.adjTo_len a 4
      have HLA := hid hla2
      have HNO := hid hno
      clear hB hla2 hno
      go_wp2_with (go_at_call 73; refine hold ?_)
      unfold Hid
      refine (appendMoves_any F sb cb a la no _ hFl.fl hFl.lk hN.2 hla HLA.out HNO.out).mono ?_
      rintro e w1 ⟨g1, cp1, rfl, hg1, hrow1, hz1⟩
      have hB1 := ext_below' hz1
      have hFl1 := hFl.below hB1
      have HB1 := hid hB1
      have HROW1 := hid hrow1
      clear hz1 hB1 hrow1
      go_wp2_with (first | (go_at_call 15; refine (neighbors_is F sb cb a la no _ (hFl1.al _).fl (hFl1.al _).lk hN.2 hla HLA.out HNO.out).mono ?_; rintro e w' ⟨rfl, z1, rfl⟩) | (at_builtin; refine hold ?_))
      unfold Hid
      refine wp_app rfl _ _ 31 rfl w1.heap.size 28 (.int .i64 0) 1 8 Tryd.underlying31 (by kernel_rfl) rfl (by decide) _ 1 [.int .i64 (a)] rfl (ownsRow_ext (World.ownsRow_lit w1 #[.int .i64 (a)] 1 (by omega) (by unfold maxLen; omega) (by rfl))) cb no la la (idRow (F.adj a)) rfl (by simp [idRow, HLA.out]) ?_ (by simp [idRow, Value.oneCell']) (by omega) (by omega) ?_ ?_
      · intro j u hj
        simp [idRow] at hj
        obtain ⟨x, hx, rfl⟩ := hj
        obtain ⟨hj2, hj3⟩ := List.getElem?_eq_some_iff.1 hx
        have := ((hFl1.al (.cells #[.int .i64 (a)] 28)).ex z1).lk.nb hla hj2
        rw [HNO.out, hj3] at this
        exact this
      · (first | omega | (simp only [World.size_ext, World.size_alloc, World.size_setCell, World.size_drew, Array.size_append]; done) | (simp only [World.size_ext, World.size_alloc, World.size_setCell, World.size_drew, Array.size_append]; omega))
      intro v2 w2 hown2 hb2
      obtain ⟨g2, cp2, rfl, -, -, hg2, hcells2⟩ := ownsRow_cells hown2 (by omega)
      have hrow2 : RowIs w2 g2 (a :: F.adj a) := fun i c hc => hcells2 i _ (by
        have e0 : [.int .i64 (a)] ++ idRow (F.adj a) = idRow (a :: F.adj a) := rfl
        rw [e0]; unfold idRow; rw [List.getElem?_map, hc]; rfl)
      have hB2 : Below w1.heap.size w1 w2 := Below.trans (by (repeat (first | with_reducible exact Below.rf _ | with_reducible exact World.below_ext _ _ | with_reducible refine Below.ex ?_ _ | with_reducible refine Below.al ?_ _ | with_reducible refine Below.setCell ?_ (by simp) _ | with_reducible refine Below.drew ?_))) hb2
      have hs2 := hB2.size
      have hFl2 := hFl1.below hB2
      have HSM := hid (sameCells_ok g1 g2 (la + 1) cp1 cp2 (a :: F.adj a) w2 (by omega) hg2 (by simp [HLA.out]) (by omega) (HROW1.out.below hg1 hB2) hrow2)
      have HB2 := hid hB2
      rw [Nat.add_comm 1 la]
      clear hown2 hb2 hcells2 hrow2 hB2 hFl hFl1
      go_wp2_with (go_at_call 28; refine HSM.out.mono ?_; rintro e w' ⟨rfl, z2, rfl⟩)
      have hB3 : Below wr.heap.size wr (w2.ext z2) := HB1.out.trans (Below.mono (HB2.out.ex z2) HB1.out.size)
      have HB3 := hid hB3
      have hFl3 := hFl2.ex z2
      generalize w2.ext z2 = w3 at *
      clear hB3 hFl2 HSM
      go_loopw [5, 6] (fun y x w4 => ∃ b : Nat, b ≤ F.N ∧ x = .int .i64 (b) ∧ y = .int .i64 (F.ecc a b) ∧ Below w3.heap.size w3 w4) (fun _ x _ => F.N - (intOf x).toNat)
      case atStart => exact ⟨0, Nat.zero_le _, rfl, rfl, Below.rf _⟩
      case round =>
        obtain ⟨b, hb, rfl, rfl, hB4⟩ := hrel
        have HB4 := hid hB4
        have hFl4 := hFl3.below hB4
        have hE1 := HEL.out a hla b hb
        by_cases hlb : b < F.N
        · obtain ⟨-, d, c, nr, hnr, hcb, hd4, cDir, cStep⟩ := near_ex F sb cb a b HP.out hN.2 hla hlb
          have bb : decide ((b : Int) < F.N) = true := by simp; omega
          have hdd := (hFl4.dst hla hlb).2.2
          have hE2 := HEL.out a hla (b + 1) (by omega)
          have e1 : F.ecc a (b + 1) = max (F.ecc a b) (F.dst a b) := rfl
          have DS := hid (dist_any F a b wr hFl4.fl hla hlb)
          have RE := hid (fun w' (h1 : FlN w' F) (h2 : Lnk w' F sb cb) => reachable_any F sb cb a b w' h1 h2 hN.2 hla hlb)
          rw [← hnr] at RE
          have AD := hid (fun w' (h1 : FlN w' F) (h2 : Lnk w' F sb cb) => adjacent_any F sb cb a b w' h1 h2 hN.2 hla hlb)
          generalize F.dst a b = dd at *
          obtain ⟨fa, hfa⟩ : ∃ x, F.ecc a b = x := ⟨_, rfl⟩
          rw [hfa] at hE1 e1 ⊢
          obtain ⟨fn, hfn⟩ : ∃ x, F.ecc a (b + 1) = x := ⟨_, rfl⟩
          rw [hfn] at e1 hE2
          have HFN := hid hfn
          have CD := hid cDir
          have CS := hid cStep
          have HE1 := hid e1
          by_cases hab : a = b
          · have bab : ((a : Int) == b) = true := by simp; omega
            have hnr1 : nr = true := by rw [hnr]; exact decide_eq_true (Or.inl hab)
            subst hnr1
            have hcb2 := (hcb rfl).symm; subst hcb2
            clear hB4 hfa hfn cDir cStep e1 hnr hcb AD hab
            by_cases ho : fa < dd
            · go_wp2_with (first | (go_at_call 20; refine DS.out.mono ?_; rintro e w' ⟨rfl, y1, rfl⟩) | (go_at_call 58; refine (CD.out _ (hFl4.ex _).fl (hFl4.ex _).lk).mono ?_; rintro e w' ⟨rfl, y2, rfl⟩) | (go_at_call 74; refine (RE.out _ (hFl4.ex _).fl (hFl4.ex _).lk).mono ?_; rintro e w5 ⟨rfl, hw5⟩; obtain rfl := hw5) | (go_at_call 59; refine (CS.out _ (hFl4.ex _).fl).mono ?_; rintro e w' ⟨rfl, y3, rfl⟩))
              go_roundw
              case rel => exact ⟨b + 1, by omega, by go_num, by rw [HFN.out]; exact int_eq (by have := HE1.out; omega), HB4.out.ex _⟩
              case measure => simp [intOf]; omega
            · go_wp2_with (first | (go_at_call 20; refine DS.out.mono ?_; rintro e w' ⟨rfl, y1, rfl⟩) | (go_at_call 58; refine (CD.out _ (hFl4.ex _).fl (hFl4.ex _).lk).mono ?_; rintro e w' ⟨rfl, y2, rfl⟩) | (go_at_call 74; refine (RE.out _ (hFl4.ex _).fl (hFl4.ex _).lk).mono ?_; rintro e w5 ⟨rfl, hw5⟩; obtain rfl := hw5) | (go_at_call 59; refine (CS.out _ (hFl4.ex _).fl).mono ?_; rintro e w' ⟨rfl, y3, rfl⟩))
              go_roundw
              case rel => exact ⟨b + 1, by omega, by go_num, by rw [HFN.out]; exact int_eq (by have := HE1.out; omega), HB4.out.ex _⟩
              case measure => simp [intOf]; omega
          · have bab : ((a : Int) == b) = false := by simp; omega
            have hnr2 : decide (b ∈ F.adj a) = nr := by rw [hnr, decide_eq_decide]; simp [hab]
            rw [hnr2] at AD
            cases nr with
            | true =>
              have hcb2 := (hcb rfl).symm; subst hcb2
              clear hB4 hfa hfn cDir cStep e1 hnr hcb hab hnr2
              by_cases ho : fa < dd
              · go_wp2_with (first | (go_at_call 20; refine DS.out.mono ?_; rintro e w' ⟨rfl, y1, rfl⟩) | (go_at_call 14; refine (AD.out _ (hFl4.ex _).fl (hFl4.ex _).lk).mono ?_; rintro e w5 ⟨rfl, hw5⟩; obtain rfl := hw5) | (go_at_call 58; refine (CD.out _ (hFl4.ex _).fl (hFl4.ex _).lk).mono ?_; rintro e w' ⟨rfl, y2, rfl⟩) | (go_at_call 74; refine (RE.out _ (hFl4.ex _).fl (hFl4.ex _).lk).mono ?_; rintro e w5 ⟨rfl, hw5⟩; obtain rfl := hw5) | (go_at_call 59; refine (CS.out _ (hFl4.ex _).fl).mono ?_; rintro e w' ⟨rfl, y3, rfl⟩))
                go_roundw
                case rel => exact ⟨b + 1, by omega, by go_num, by rw [HFN.out]; exact int_eq (by have := HE1.out; omega), HB4.out.ex _⟩
                case measure => simp [intOf]; omega
              · go_wp2_with (first | (go_at_call 20; refine DS.out.mono ?_; rintro e w' ⟨rfl, y1, rfl⟩) | (go_at_call 14; refine (AD.out _ (hFl4.ex _).fl (hFl4.ex _).lk).mono ?_; rintro e w5 ⟨rfl, hw5⟩; obtain rfl := hw5) | (go_at_call 58; refine (CD.out _ (hFl4.ex _).fl (hFl4.ex _).lk).mono ?_; rintro e w' ⟨rfl, y2, rfl⟩) | (go_at_call 74; refine (RE.out _ (hFl4.ex _).fl (hFl4.ex _).lk).mono ?_; rintro e w5 ⟨rfl, hw5⟩; obtain rfl := hw5) | (go_at_call 59; refine (CS.out _ (hFl4.ex _).fl).mono ?_; rintro e w' ⟨rfl, y3, rfl⟩))
                go_roundw
                case rel => exact ⟨b + 1, by omega, by go_num, by rw [HFN.out]; exact int_eq (by have := HE1.out; omega), HB4.out.ex _⟩
                case measure => simp [intOf]; omega
            | false =>
              clear hB4 hfa hfn cDir cStep e1 hnr hcb hab hnr2
              by_cases ho : fa < dd
              · go_wp2_with (first | (go_at_call 20; refine DS.out.mono ?_; rintro e w' ⟨rfl, y1, rfl⟩) | (go_at_call 14; refine (AD.out _ (hFl4.ex _).fl (hFl4.ex _).lk).mono ?_; rintro e w5 ⟨rfl, hw5⟩; obtain rfl := hw5) | (go_at_call 58; refine (CD.out _ (hFl4.ex _).fl (hFl4.ex _).lk).mono ?_; rintro e w' ⟨rfl, y2, rfl⟩) | (go_at_call 74; refine (RE.out _ (hFl4.ex _).fl (hFl4.ex _).lk).mono ?_; rintro e w5 ⟨rfl, hw5⟩; obtain rfl := hw5) | (go_at_call 59; refine (CS.out _ (hFl4.ex _).fl).mono ?_; rintro e w' ⟨rfl, y3, rfl⟩))
                go_roundw
                case rel => exact ⟨b + 1, by omega, by go_num, by rw [HFN.out]; exact int_eq (by have := HE1.out; omega), HB4.out.ex _⟩
                case measure => simp [intOf]; omega
              · go_wp2_with (first | (go_at_call 20; refine DS.out.mono ?_; rintro e w' ⟨rfl, y1, rfl⟩) | (go_at_call 14; refine (AD.out _ (hFl4.ex _).fl (hFl4.ex _).lk).mono ?_; rintro e w5 ⟨rfl, hw5⟩; obtain rfl := hw5) | (go_at_call 58; refine (CD.out _ (hFl4.ex _).fl (hFl4.ex _).lk).mono ?_; rintro e w' ⟨rfl, y2, rfl⟩) | (go_at_call 74; refine (RE.out _ (hFl4.ex _).fl (hFl4.ex _).lk).mono ?_; rintro e w5 ⟨rfl, hw5⟩; obtain rfl := hw5) | (go_at_call 59; refine (CS.out _ (hFl4.ex _).fl).mono ?_; rintro e w' ⟨rfl, y3, rfl⟩))
                go_roundw
                case rel => exact ⟨b + 1, by omega, by go_num, by rw [HFN.out]; exact int_eq (by have := HE1.out; omega), HB4.out.ex _⟩
                case measure => simp [intOf]; omega
        · obtain rfl : b = F.N := by omega
          have EC := hid (ecc_any F sb cb tb db NN dist dia D a wr hFl4 hla)
          have DP := hid (fun w' (h' : FlN w' F) => depotDist_any F dep a w' h' HDEP.out hdp hla)
          have DS := hid (fun w' (h' : FlN w' F) => dist_any F dep a w' h' hdp hla)
          generalize F.dst dep a = dd at *
          generalize F.ecc a F.N = ff at *
          clear hB4
          go_wp2_with (first | (go_at_call 75; refine EC.out.mono ?_; rintro e w' ⟨rfl, y1, rfl⟩) | (go_at_call 76; refine (DP.out _ (hFl4.ex _).fl).mono ?_; rintro e w' ⟨rfl, y2, rfl⟩) | (go_at_call 32; refine (hdc.out _ (hFl4.ex _).fl).mono ?_; rintro e w5 ⟨rfl, hw5⟩; obtain rfl := hw5) | (go_at_call 20; refine (DS.out _ (hFl4.ex _).fl).mono ?_; rintro e w' ⟨rfl, y3, rfl⟩))
          go_roundw
          case rel => exact ⟨a + 1, by omega, by go_num, HB.out.trans (Below.mono (HB3.out.trans (Below.mono (HB4.out.ex _) HB3.out.size)) hsz)⟩
          case measure => simp [intOf]; omega
    · go_wp2
      go_ret
      exact ⟨rfl, HB.out.is_ext⟩
end Go.Proofs.Qxb6500715aDoor
