/-
  reach, the bays barred: the walk.
-/
import Derived.Test.Qxb6500715aDoorReach
import Derived.Test.Qxb6500715aDoorBay
namespace Go.Proofs.Qxb6500715aDoor
open Go.RowKit Go.Maps
set_option linter.unusedSimpArgs false
set_option linter.unusedVariables false

theorem func_some (v : Value) (w : World) : (binOp .eql 55 (.func (.func 39) #[v] #[]) .nilFunc).run Tryd.prog w = .ok (.bool false) w := by kernel_rfl

set_option maxRecDepth 20000 in
set_option maxHeartbeats 2000000 in
theorem reachB_any (F : FP) (sb cb s : Nat) (bar : Nat → Bool) (w : World) (h : FlN w F) (hl : Lnk w F sb cb) (hN : F.N ≤ 384) (hs : s < F.N) (hbar : ∀ c, c < F.N → decide (0 ≤ ownr F.kd F.W F.px F.py F.n c) = bar c) :
    Calls Tryd.prog 16 #[.pointer (some ⟨F.fb, 0, none⟩), .int .i64 (s), .func (.func 39) #[.pointer (some ⟨F.fb, 0, none⟩)] #[]] w (reachPost F bar s w) := by
  have HH := hid h
  have HL := hid hl
  have hpl := h.plain
  have hmm := @run_makeMap Tryd.prog
  have hfn := func_some (.pointer (some ⟨F.fb, 0, none⟩))
  have hup := (SetAt.made w).update s (by omega) (by simp)
  obtain ⟨w1, hr1, hst1, hg1⟩ := hup
  have hB1 : Below w.heap.size w w1 := ((Below.rf w).al _).grown hg1 (by simp) (fun k hk => by cases hk; exact Nat.le_refl _)
  have hs1 : w.heap.size < w1.heap.size := hst1.lt
  have HST := hid hst1
  have HB1 := hid hB1
  clear h hl hst1 hg1 hB1
  go_enter Tryd.func16, Tryd.ntmps16
  go_wp2
  go_loopw [8] (fun v wr => ∃ (acc T : List Nat) (ao : Option Addr) (cp : Nat), v = .slice ao T.length cp ∧ DfsO F bar s acc T ∧ RcAt w wr acc T (.slice ao T.length cp)) (fun v wr => 2 * (F.N - mapSz wr w.heap.size) + slLen v)
  case atStart =>
    refine ⟨[s], [s], _, _, rfl, DfsO.start hs, ⟨HST.out.below ((Below.rf w1).al _), ?_, HB1.out.trans (Below.alloc (Below.refl _ w1) HB1.out.size _)⟩⟩
    exact World.ownsRow_lit w1 #[.int .i64 (s)] 1 (by omega) (by unfold maxLen; omega) (by rfl)
  case round =>
    obtain ⟨acc, T, ao, cp, rfl, hD, hR⟩ := hrel
    have hlen := hD.len
    have hsz := hR.below.size
    have HB := hid hR.below
    have hFl : FlN wr F := HH.out.below hR.below
    have hLk : Lnk wr F sb cb := HL.out.below hR.below
    have hacc := hR.st.sz hD.nd
    have HD := hid hD
    have HR := hid hR
    have HA := hid hacc
    clear hr1 hmm hacc
    rcases List.eq_nil_or_concat T with rfl | ⟨T', c, rfl⟩
    · clear hD hR
      go_wp2
      go_ret
      exact ⟨acc, w.heap.size, rfl, HD.out.nd, HD.out.lt, HD.out.s0, HD.out.nb, fun c b hc hb hbar => HD.out.cl c b hc (by simp) hb hbar, HR.out.st, HB.out.is_ext⟩
    · rw [List.concat_eq_append] at *
      obtain ⟨g, cap, hv, hcap, hg1, hg2, hcells⟩ := ownsRow_cells hR.own (by simp)
      simp only [Value.slice.injEq] at hv
      obtain ⟨rfl, -, rfl⟩ := hv
      obtain ⟨n, hn⟩ : ∃ n, T'.length = n := ⟨_, rfl⟩
      have hn1 : (T' ++ [c]).length = n + 1 := by simp [hn]
      rw [hn1] at hcap ⊢
      have ct : wr.cell? ⟨g, n, none⟩ = some (.int .i64 (c)) := hcells n _ (by rw [idRow, List.map_append, List.getElem?_append_right (by simp [hn])]; simp [hn])
      have hsl := slice_hi g n (n + 1) cp (by omega) (by omega)
      have hcN : c < F.N := hD.lt c (hD.sub c (by simp))
      have hR2 : RcAt w wr acc T' (.slice (some ⟨g, 0, none⟩) T'.length cp) := ⟨hR.st, by
        have := hR.own
        rw [hn1, idRow, List.map_append] at this
        rw [hn]; exact own_pop this, hR.below⟩
      have hD2 := hD.pop
      have hnb : n < F.N := by
        have := nodup_le F.N (T' ++ [c]) hD.tnd (fun x hx => hD.lt x (hD.sub x hx))
        omega
      obtain ⟨la, hla⟩ : ∃ la, (F.adj c).length = la := ⟨_, rfl⟩
      obtain ⟨no, hno⟩ : ∃ no, F.no c = no := ⟨_, rfl⟩
      have HLA := hid hla
      have HNO := hid hno
      have hla4 : la ≤ 4 := by rw [← hla]; exact F.adjTo_len c 4
      have HR2 := hid hR2
      have HD2 := hid hD2
      have HN := hid hn
      have bh : decide ((n : Int) + 1 > 0) = true := decide_eq_true (by omega)
      clear hla hno hD hR hR2 hD2 hcells hn hn1
      go_wp2_with (go_at_call 15; refine (neighbors_is F sb cb c la no _ hFl hLk hN hcN HLA.out HNO.out).mono ?_; rintro e w' ⟨rfl, z1, rfl⟩)
      obtain ⟨a0, ha0⟩ : ∃ a0, acc.length = a0 := ⟨_, rfl⟩
      have HA0 := hid (HA.out.trans ha0)
      have ha0N : a0 ≤ F.N := by omega
      go_loopw [8, 35] (fun v x wr => ∃ (t : Nat) (acc T : List Nat) (ao : Option Addr) (cp : Nat), v = .slice ao T.length cp ∧ x = .int .i64 (t) ∧ t ≤ la ∧ (T.length + a0 = n + acc.length ∧ a0 ≤ acc.length) ∧ Dfs F bar s acc T c t ∧ RcAt w wr acc T (.slice ao T.length cp)) (fun _ x _ => la - (intOf x).toNat)
      case atStart => exact ⟨0, acc, T', _, _, by rw [HN.out], rfl, Nat.zero_le _, ⟨by rw [HN.out, ha0], by omega⟩, HD2.out, HR2.out.ext (World.below_ext _ _)⟩
      case round =>
        clear HR2 HD2 HR HD HB hFl hLk ct hg2 hg1 hlen hsz HA ha0
        obtain ⟨t, acc2, T2, ao2, cp2, rfl, rfl, ht, hcount, hD, hR⟩ := hrel
        have hlen := hD.len
        have htlen : T2.length ≤ F.N := nodup_le F.N T2 hD.tnd (fun x hx => hD.lt x (hD.sub x hx))
        have hsz := hR.below.size
        have hLk : Lnk wr F sb cb := HL.out.below hR.below
        have hms := hR.st.sz hD.nd
        have HB := hid hR.below
        have HD := hid hD
        have HR := hid hR
        have HMS := hid hms
        obtain ⟨m, hm⟩ : ∃ m, T2.length = m := ⟨_, rfl⟩
        rw [hm] at hcount htlen ⊢
        have HM := hid hm
        by_cases hlt : t < la
        · have hta : t < (F.adj c).length := by rw [HLA.out]; exact hlt
          have cn := hLk.nb hcN hta
          have hbm : (F.adj c)[t] ∈ F.adj c := List.getElem_mem hta
          have hbt : (F.adj c)[t]? = some (F.adj c)[t] := List.getElem?_eq_getElem hta
          rw [HNO.out] at cn
          generalize (F.adj c)[t] = b at *
          have hbN := adj_lt hpl hcN hbm
          have hlk := hR.st.lookup b (by omega)
          have hcbs := hLk.lt.2
          have bt : decide ((t : Int) < la) = true := by simp; omega
          have HBT := hid hbt
          by_cases hmem : b ∈ acc2
          · rw [decide_eq_true hmem] at hlk
            clear hD hR hms hm hbt hbm hLk
            go_wp2
            go_roundw
            case rel => exact ⟨t + 1, acc2, T2, ao2, cp2, by rw [HM.out], by go_num, by omega, by rw [HM.out]; exact hcount, HD.out.skip HBT.out (Or.inl hmem), HR.out⟩
            case measure => simp [intOf]; omega
          · rw [decide_eq_false hmem] at hlk
            have hfl2 : FlN wr F := HH.out.below hR.below
            have hbb := hbar b hbN
            cases hbar2 : bar b with
            | true =>
              rw [hbar2] at hbb
              have HBB := hid hbb
              clear hD hR hms hm hbt hbm hLk hbb
              go_wp2_with (go_at_call 39; refine (isBay_any F b true _ hfl2 hbN HBB.out).mono ?_; rintro e w' ⟨rfl, rfl⟩)
              go_roundw
              case rel => exact ⟨t + 1, acc2, T2, ao2, cp2, by rw [HM.out], by go_num, by omega, by rw [HM.out]; exact hcount, HD.out.skip HBT.out (Or.inr hbar2), HR.out⟩
              case measure => simp [intOf]; omega
            | false =>
              rw [hbar2] at hbb
              have HBB := hid hbb
              obtain ⟨w2, hr2, hst2, hg2⟩ := hR.st.update b (by omega) (by omega)
              have hs2 := hg2.size
              have hR3 := hR.mark hst2 hg2
              have HR3 := hid hR3
              have HP := hid (hD.push hbt hbN hmem hbar2)
              clear hD hR hms hm hbt hbm hLk hst2 hg2 hR3 hbb
              go_wp2_with (first | (go_at_call 39; refine (isBay_any F b false _ hfl2 hbN HBB.out).mono ?_; rintro e w' ⟨rfl, rfl⟩) | (at_builtin; refine hold ?_))
              show wpList _ _ _ _ _ _
              refine wp_app rfl _ _ 31 rfl (w.heap.size + 1) 28 (.int .i64 0) 1 8 Tryd.underlying31 (by kernel_rfl) rfl (by decide) _ m (idRow T2) rfl (ownsRow_alloc (by have := HR3.out.own; rw [HM.out] at this; exact this) _) _ 0 1 1 [.int .i64 (b)] rfl rfl ?_ (by simp [Value.oneCell']) (by omega) (by omega) ?_ ?_
              · intro jj u hjj; simp [go_sem, ↓IntWalk.iteOmega]; simpa using hjj
              · have := HR3.out.st.lt; simp; omega
              intro v3 w3 hown3 hb3
              have hB3 : Below (w.heap.size + 1) w2 w3 := Below.trans (Below.alloc (Below.refl _ w2) (by have := HR3.out.st.lt; omega) _) hb3
              obtain ⟨gb3, cp3, rfl, -, -, -, -⟩ := ownsRow_cells hown3 (by omega)
              have hR4 : RcAt w w3 (acc2 ++ [b]) (T2 ++ [b]) (.slice (some ⟨gb3, 0, none⟩) (T2 ++ [b]).length cp3) := by
                refine ⟨?_, ?_, HR3.out.below.trans (hB3.mono (by omega))⟩
                · obtain ⟨nn, h1, es, clock, h2, h3⟩ := HR3.out.st
                  exact ⟨nn, h1, es, clock, (hB3.block _ (by omega)).trans h2, h3⟩
                · rw [List.length_append, HM.out]; unfold idRow; rw [List.map_append]; exact hown3
              have HR4 := hid hR4
              clear hown3 hb3 hB3 hR4
              go_wp2
              go_roundw
              case rel => exact ⟨t + 1, acc2 ++ [b], T2 ++ [b], _, _, by rw [List.length_append, HM.out]; rfl, by go_num, by omega, ⟨by simp [HM.out]; omega, by simp; omega⟩, HP.out, HR4.out⟩
              case measure => simp [intOf]; omega
        · clear hD hR hms hm hLk
          go_wp2
          go_roundw
          case rel => exact ⟨acc2, T2, ao2, cp2, by rw [HM.out], HD.out.done (by rw [HLA.out]; omega), HR.out⟩
          case measure =>
            rw [HMS.out, HA0.out]
            simp only [slLen]
            omega
end Go.Proofs.Qxb6500715aDoor
