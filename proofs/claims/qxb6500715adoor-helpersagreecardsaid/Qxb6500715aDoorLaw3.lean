/-
  AdjacencySound: the walk.
-/
import Derived.Test.Qxb6500715aDoorReach
import Derived.Test.Qxb6500715aDoorConn
namespace Go.Proofs.Qxb6500715aDoor
open Go.RowKit Go.Maps
set_option linter.unusedSimpArgs false
set_option linter.unusedVariables false

theorem Flo.sub {w w' : World} {F : FP} {sb cb tb db NN : Nat} {dist : Nat → Nat → Int} {dia : Int} {D : Array Value} {B : Nat} (h : Flo w F sb cb tb db NN dist dia D) (hb : Below w.heap.size w w') : FlN w' F ∧ Lnk w' F sb cb := ⟨h.fl.below hb, h.lk.below hb⟩

theorem ptr_at {w wr : World} {v : Value} {fbs : List Nat} (h : FlrsAt w wr v fbs) {i : Nat} (hi : i < fbs.length) :
    ∃ g cap fb, v = .slice (some ⟨g, 0, none⟩) fbs.length cap ∧ fbs.length ≤ cap ∧ g < wr.heap.size ∧ fb ∈ fbs ∧ wr.cell? ⟨g, i, none⟩ = some (.pointer (some ⟨fb, 0, none⟩)) := by
  obtain ⟨g, cap, hv, hc, h1, h2, hcells⟩ := ownsRow_cells h.own (by omega)
  exact ⟨g, cap, fbs[i], hv, hc, h2, List.getElem_mem hi, hcells i _ (by simp [ptrs, List.getElem?_eq_getElem hi])⟩

set_option maxRecDepth 20000 in
set_option maxHeartbeats 4000000 in
theorem law3 (sb so n cap : Nat) (K A B : Nat → Int) (dao : Nat → Option Addr) (dlen dcap : Nat → Nat) (f : Nat → Nat → Int) (w : World) (hG : Globs w) (hDr : Dirs w) (hS : Script w sb so n K A B dao dlen dcap f) (hn : n ≤ 9223372036854775807) :
    Calls Tryd.prog 3 #[.slice (some ⟨sb, so, none⟩) n cap] w fun e w' => e = .returned (.bool true) ∧ ∃ z, w' = w.ext z := by
  have HS := hid hS
  have HG := hid hG
  have HDR := hid hDr
  clear hS hG hDr
  go_enter Tryd.func3, Tryd.ntmps3
  go_wp2_with fail
  refine (small_any sb so n cap dao dlen dcap w hn HS.out.hD (fun i hi => (HS.out.hlen i hi).2)).mono ?_
  rintro e w1 ⟨b, rfl, hb, hw1⟩
  obtain rfl : w = w1 := hw1.symm
  clear hw1
  cases b with
  | false =>
    go_wp2
    go_ret
    exact ⟨rfl, (Below.rf _).is_ext⟩
  | true =>
    obtain ⟨hn1, hdl⟩ := hb rfl
    have HDL := hid hdl
    clear hb hdl
    go_wp2_with fail
    refine (floors_any sb so n cap K A B dao dlen dcap f w HS.out HG.out HDR.out hn1 HDL.out).mono ?_
    rintro e w1 ⟨v, fbs, rfl, hfl, hF⟩
    obtain ⟨ao, cp, rfl⟩ : ∃ ao cp, v = .slice ao fbs.length cp := by
      rcases hF.own.2 with ⟨h1, h2⟩ | ⟨g, cap, cur, h1, _⟩
      · exact ⟨none, 0, by rw [h2]; exact h1⟩
      · exact ⟨some ⟨g, 0, none⟩, cap, h1⟩
    have HF := hid hF
    obtain ⟨m, hm⟩ : ∃ m, fbs.length = m := ⟨_, rfl⟩
    have HM := hid hm
    rw [hm] at hfl ⊢
    clear hF hm
    go_wp2_with fail
    go_loopw [17] (fun x wr => ∃ i : Nat, i ≤ m ∧ x = .int .i64 (i) ∧ Below w1.heap.size w1 wr) (fun x _ => m - (intOf x).toNat)
    case atStart => exact ⟨0, Nat.zero_le _, rfl, Below.rf _⟩
    case round =>
      obtain ⟨i, hi, rfl, hB⟩ := hrel
      have HB := hid hB
      have hsz := hB.size
      by_cases hlt : i < m
      · obtain ⟨g, cap', fb, hv, hcap, hg, hmem, hcell⟩ := ptr_at (HF.out.ext hB) (i := i) (by rw [HM.out]; exact hlt)
        simp only [Value.slice.injEq] at hv
        obtain ⟨rfl, -, rfl⟩ := hv
        obtain ⟨F, sb2, cb2, tb, db, NN, dist, dia, D, rfl, hFlo, -⟩ := (HF.out.ext hB).has fb hmem
        rw [HM.out] at hcap
        have hN := hFlo.hN
        have hp := hFlo.fl.pln
        have HFL := hid hFlo
        have bi : decide ((i : Int) < m) = true := by simp; omega
        clear hmem hB hFlo
        go_wp2_with (go_at_call 13; refine (cells_any F _ HFL.out.fl).mono ?_; rintro e w3 ⟨rfl, rfl⟩)
        go_loopw [6] (fun x wr => ∃ a : Nat, a ≤ F.N ∧ x = .int .i64 (a) ∧ Below w3.heap.size w3 wr) (fun x _ => F.N - (intOf x).toNat)
        case atStart => exact ⟨0, Nat.zero_le _, rfl, Below.rf _⟩
        case round =>
          obtain ⟨a, ha, rfl, hB2⟩ := hrel
          have HB2 := hid hB2
          have hs2 := hB2.size
          by_cases hla : a < F.N
          · have hFl2 : FlN wr F := HFL.out.fl.below hB2
            have hLk2 : Lnk wr F sb2 cb2 := HFL.out.lk.below hB2
            have hself : decide (a ∈ F.adj a) = false := decide_eq_false (adj_ne hp.pl hla)
            have ba : decide ((a : Int) < F.N) = true := by simp; omega
            have hmm := @run_makeMap Tryd.prog
            obtain ⟨la, hla2⟩ : ∃ la, (F.adj a).length = la := ⟨_, rfl⟩
            obtain ⟨no, hno⟩ : ∃ no, F.no a = no := ⟨_, rfl⟩
            have hla4 : la ≤ 4 := by rw [← hla2]; exact F.adjTo_len a 4
            have HLA := hid hla2
            have HNO := hid hno
            clear hB2 hla2 hno
            go_wp2_with (first | (go_at_call 14; refine (Calls.tf (adjacent_any F sb2 cb2 a a _ hFl2 hLk2 hN.2 hla hla) hself).mono ?_; rintro e w4 ⟨rfl, rfl⟩) | (go_at_call 15; refine (neighbors_is F sb2 cb2 a la no _ (hFl2.al _) (hLk2.al _) hN.2 hla HLA.out HNO.out).mono ?_; rintro e w' ⟨rfl, z1, rfl⟩))
            go_loopw [37] (fun x wr => ∃ t : Nat, t ≤ la ∧ x = .int .i64 (t) ∧ SetAt wr w4.heap.size ((F.adj a).take t) ∧ Below w4.heap.size w4 wr) (fun x _ => la - (intOf x).toNat)
            case atStart => exact ⟨0, Nat.zero_le _, rfl, by simpa using (SetAt.made w4).below (World.below_ext _ _), ((Below.rf _).al _).ex _⟩
            case round =>
              obtain ⟨t, ht, rfl, hset, hB3⟩ := hrel
              have hs3 := hB3.size
              by_cases hlt2 : t < la
              · have hta : t < (F.adj a).length := by rw [HLA.out]; exact hlt2
                have cn := (hLk2.below hB3).nb hla hta
                have hcbs := (hLk2.below hB3).lt.2
                have hbt : (F.adj a)[t]? = some (F.adj a)[t] := List.getElem?_eq_getElem hta
                have hbN := adj_lt hp.pl hla (List.getElem_mem hta)
                rw [HNO.out] at cn
                generalize (F.adj a)[t] = b at *
                obtain ⟨w5, hr5, hset5, hg5⟩ := hset.update b (by omega) (by rw [List.length_take]; omega)
                have HSET := hid hset5
                have HB5 := hid (hB3.grown hg5 hs3 (fun k hk => by cases hk; exact Nat.le_refl _))
                have HBT := hid hbt
                clear hset hB3 hset5 hg5 hbt
                go_wp2
                go_roundw
                case rel => exact ⟨t + 1, by omega, by go_num, by rw [List.take_add_one, HBT.out]; exact HSET.out, HB5.out⟩
                case measure => simp [intOf]; omega
              · have hta : (F.adj a).take t = F.adj a := List.take_of_length_le (by rw [HLA.out]; omega)
                rw [hta] at hset
                have HSET := hid hset
                have HB4 := hid hB3
                clear hset hB3 hta
                go_wp2
                go_loopw [10] (fun x wr => ∃ b : Nat, b ≤ F.N ∧ x = .int .i64 (b) ∧ SetAt wr w4.heap.size (F.adj a) ∧ Below w4.heap.size w4 wr) (fun x _ => F.N - (intOf x).toNat)
                case atStart => exact ⟨0, Nat.zero_le _, rfl, HSET.out, HB4.out⟩
                case round =>
                  clear HSET HB4
                  obtain ⟨b, hb, rfl, hset, hB3⟩ := hrel
                  have hs4 := hB3.size
                  by_cases hlb : b < F.N
                  · have hFl3 := hFl2.below hB3
                    have hLk3 := hLk2.below hB3
                    obtain ⟨p, hpp⟩ : ∃ p, decide (b ∈ F.adj a) = p := ⟨_, rfl⟩
                    have hpq : decide (a ∈ F.adj b) = p := by
                      rw [← hpp, decide_eq_decide]
                      exact ⟨adj_symm hp.pl hlb, adj_symm hp.pl hla⟩
                    have hlk : ∀ z, (Instr.lookup 30 (.map (some w4.heap.size)) (.int .i64 (b : Int)) false).run Tryd.prog (wr.ext z) = .ok (.bool p) (wr.ext z) := fun z => by
                      rw [← hpp]; exact (hset.below (World.below_ext wr z)).lookup b (by omega)
                    have bb : decide ((b : Int) < F.N) = true := by simp; omega
                    have HP := hid hpp
                    have HQ := hid hpq
                    have HSET := hid hset
                    have HB4 := hid hB3
                    clear hpp hpq hset hB3
                    cases p with
                    | true =>
                      go_wp2
                      first | with_reducible refine wp_region_ext2 (by kernel_rfl) (by kernel_rfl) ?_ | refine wp_region_ext (by kernel_rfl) (by kernel_rfl) ?_
                      repeat (go_big_quiet_step ((go_at_call 14; first | with_reducible exact Calls.ext_of_same (Calls.tf (adjacent_any F sb2 cb2 a b _ (hFl3.ex _) (hLk3.ex _) hN.2 hla hlb) HP.out) | with_reducible exact Calls.ext_of_same (Calls.tf (adjacent_any F sb2 cb2 b a _ (hFl3.ex _) (hLk3.ex _) hN.2 hlb hla) HQ.out))))
                      refine wpQuiet_nil ?_
                      rintro _ ⟨z, rfl⟩
                      go_wp2
                      go_roundw
                      case rel => exact ⟨b + 1, by omega, by go_num, HSET.out.below (World.below_ext _ _), HB4.out.ex _⟩
                      case measure => simp [intOf]; omega
                    | false =>
                      go_wp2
                      first | with_reducible refine wp_region_ext2 (by kernel_rfl) (by kernel_rfl) ?_ | refine wp_region_ext (by kernel_rfl) (by kernel_rfl) ?_
                      repeat (go_big_quiet_step ((go_at_call 14; first | with_reducible exact Calls.ext_of_same (Calls.tf (adjacent_any F sb2 cb2 a b _ (hFl3.ex _) (hLk3.ex _) hN.2 hla hlb) HP.out) | with_reducible exact Calls.ext_of_same (Calls.tf (adjacent_any F sb2 cb2 b a _ (hFl3.ex _) (hLk3.ex _) hN.2 hlb hla) HQ.out))))
                      refine wpQuiet_nil ?_
                      rintro _ ⟨z, rfl⟩
                      go_wp2
                      go_roundw
                      case rel => exact ⟨b + 1, by omega, by go_num, HSET.out.below (World.below_ext _ _), HB4.out.ex _⟩
                      case measure => simp [intOf]; omega
                  · have HB4 := hid hB3
                    clear hset hB3
                    go_wp2
                    go_roundw
                    case rel => exact ⟨a + 1, by omega, by go_num, HB2.out.trans (HB4.out.mono hs2)⟩
                    case measure => simp [intOf]; omega
          · clear hB2
            go_wp2_with fail
            refine (reach_any F sb2 cb2 0 wr (HFL.out.fl.below HB2.out) (HFL.out.lk.below HB2.out) hN.2 (by omega)).mono ?_
            rintro e w5 ⟨acc, B, rfl, hnd, hltN, h0, -, hcl, hset, z5, hz5⟩
            have hall := conn hp (T := fun c => c ∈ acc) (fun c b hc hcT hb => hcl c b hcT hb rfl) (s := 0) (by omega) h0
            have hlenN := range_len F.N acc hnd hltN hall
            have hln := hset.len hnd 3
            rw [hlenN] at hln
            have HB5 : Hid (Below wr.heap.size wr w5) := by show Below _ _ _; rw [hz5]; exact World.below_ext _ _
            clear hz5 hset hnd hltN h0 hcl hall hlenN
            go_wp2
            go_roundw
            case rel => exact ⟨i + 1, by omega, by go_num, HB.out.trans ((HB2.out.trans (HB5.out.mono hs2)).mono hsz)⟩
            case measure => simp [intOf]; omega
      · go_wp2
        go_ret
        obtain ⟨z, hz⟩ := HF.out.below.is_ext
        exact ⟨rfl, (HF.out.below.trans (HB.out.mono HF.out.below.size)).is_ext⟩
end Go.Proofs.Qxb6500715aDoor
