/-
  search: the walk.
-/
import Derived.Test.Qxb6500715aFmtSrch
namespace Go.Proofs.Qxb6500715aFmt
open Go.RowKit
set_option linter.unusedSimpArgs false
set_option linter.unusedVariables false

/-- The farthest. -/
def farOk (row : Nat → Int) (Q : List Nat) (far : Int) : Prop := (∀ x, x ∈ Q → row x ≤ far) ∧ ∃ x, x ∈ Q ∧ row x = far

def srPost (F : FP) (src : Nat) (w : World) (rb ro ub : Nat) (D0 : Array Value) (e : Ending) (w' : World) : Prop :=
  ∃ (far : Int) (row : Nat → Int) (Q : List Nat) (D U : Array Value), e = .returned (.int .i64 (far)) ∧ Bfs F src row Q Q.length 0 ∧ farOk row Q far ∧ SrAt w w' F.N rb ro ub D0 row Q D U

theorem far_bound {F : FP} {src : Nat} {row : Nat → Int} {Q : List Nat} {h t : Nat} (B : Bfs F src row Q h t) {far : Int} (hf : farOk row Q far) : 0 ≤ far ∧ far < F.N := by
  obtain ⟨x, hx, hr⟩ := hf.2
  obtain ⟨i, hi, he⟩ := List.getElem_of_mem hx
  have h1 := B.le i x (by rw [List.getElem?_eq_getElem hi, he])
  have h2 := B.nn x hx
  have := B.len
  omega

theorem nil_neq (w : World) : (binOp .neq 136 (.slice none 0 0) (.slice none 0 0)).run Tryf.prog w = .ok (.bool false) w := by kernel_rfl

set_option maxRecDepth 20000 in
set_option maxHeartbeats 2000000 in
theorem search_any (F : FP) (sb cb B src rb ro rc ub : Nat) (D0 U0 : Array Value) (w : World) (h : FlN w F) (hl : Lnk w F sb cb) (hu : Under F sb cb B) (hN : F.N ≤ 384) (hs : src < F.N) (hrc : F.N ≤ rc) (hbr : B ≤ rb) (hbu : B ≤ ub) (hne : rb ≠ ub)
    (hD : w.heap[rb]? = some (.cells D0 115)) (hro : ro + F.N ≤ D0.size) (hU : w.heap[ub]? = some (.cells U0 50)) (hUs : U0.size = F.N) :
    Calls Tryf.prog 75 #[.pointer (some ⟨F.fb, 0, none⟩), .int .i64 (src), .slice (some ⟨rb, ro, none⟩) F.N rc, .slice (some ⟨ub, 0, none⟩) (0) F.N, .slice none 0 0] w (srPost F src w rb ro ub D0) := by
  have HH := hid h
  have HL := hid hl
  have HU := hid hu
  have hpl := h.plain
  have HD := hid hD
  have HUU := hid hU
  have hrs : rb < w.heap.size := (Array.getElem?_eq_some_iff.1 hD).1
  have hus : ub < w.heap.size := (Array.getElem?_eq_some_iff.1 hU).1
  clear h hl hu hD hU
  have hnn := nil_neq
  go_enter Tryf.func75, Tryf.ntmps75
  go_wp2
  go_loopw [20] (fun x wr => ∃ (k : Nat) (D : Array Value), k ≤ F.N ∧ x = .int .i64 (k) ∧ D.size = D0.size ∧ (∀ c, c < k → D[ro + c]? = some (.int .i16 (-1))) ∧ (∀ i, (i < ro ∨ ro + F.N ≤ i) → D[i]? = D0[i]?) ∧ wr = w.setRow rb D) (fun x _ => F.N - (intOf x).toNat)
  case atStart => exact ⟨0, D0, Nat.zero_le _, rfl, rfl, fun c hc => by omega, fun i _ => rfl, (setRow_self w rb D0 115 _ HD.out).symm⟩
  case round =>
    obtain ⟨k, D, hk, rfl, hds, hdv, hdo, hw⟩ := hrel
    have hh : wr.heap[rb]? = some (.cells D 115) := by rw [hw]; exact setRow_heap w rb D0 D 115 _ HD.out
    by_cases hlk : k < F.N
    · have c0 : wr.cell? ⟨rb, ro + k, none⟩ = some D[ro + k]! := by
        rw [cell_of_row wr rb (ro + k) D 115 (0, 0) hh, getElem!_pos D (ro + k) (by omega)]; exact Array.getElem?_eq_getElem (by omega)
      have f0 : wr.frozen? ⟨rb, ro + k, none⟩ = false := by simp [World.frozen?, hh]
      have HW := hid hw
      have HH2 := hid hh
      have HDV := hid hdv
      have HDO := hid hdo
      clear hw hh hdv hdo
      go_wp2
      go_roundw
      case rel =>
        refine ⟨k + 1, D.setIfInBounds (ro + k) (.int .i16 (-1)), by omega, by go_num, by simpa using hds, fun c hc => ?_, fun i hi => ?_, ?_⟩
        · rw [Array.getElem?_setIfInBounds]
          by_cases hck : k = c
          · subst hck; rw [if_pos rfl, if_pos (by omega)]
          · rw [if_neg (by omega)]; exact HDV.out c (by omega)
        · rw [Array.getElem?_setIfInBounds, if_neg (by omega)]; exact HDO.out i hi
        · rw [setCell_eq_setRow wr rb (ro + k) D 115 _ _ HH2.out, HW.out, setRow_setRow]
      case measure => simp [intOf]; omega
    · obtain hkN : k = F.N := by omega
      have hS0 : SrAt w wr F.N rb ro ub D0 (fun _ => -1) [] D U0 := by
        refine ⟨hh, hds, fun c hc => hdv c (by omega), hdo, ?_, hUs, fun j x hx => by simp at hx, ?_⟩
        · rw [hw, setRow_other w rb ub D (Ne.symm hne)]; exact HUU.out
        · rw [hw]; exact ⟨rfl, rfl, rfl, by simp [World.setRow], fun k hk n1 n2 => setRow_other w rb k D n1⟩
      have c0 : wr.cell? ⟨rb, ro + src, none⟩ = some (.int .i16 (-1)) := by rw [cell_of_row wr rb (ro + src) D 115 (0, 0) hh]; exact hdv src (by omega)
      have f0 : wr.frozen? ⟨rb, ro + src, none⟩ = false := by simp [World.frozen?, hh]
      have hS1 := hS0.setRow hne src 0 hs hro
      have hsz1 : ub < wr.heap.size := (Array.getElem?_eq_some_iff.1 hS0.hU).1
      have HS1 := hid hS1
      have HKN := hid hkN
      clear hw hh hdv hdo hS0 hS1 hkN
      go_wp2_with (at_builtin; refine hold ?_)
      show wpList _ _ _ _ _ _
      refine wp_room rfl _ _ 52 rfl 50 (.int .i64 0) 8 Tryf.underlying52 (by kernel_rfl) ub 0 F.N U0 rfl ?_ (by omega) (by omega) _ 1 (.int .i64 (src)) rfl ?_ rfl ?_
      · rw [Below.heap_alloc _ _ _ (by simp; omega)]; exact HS1.out.hU
      · simp [go_sem, ↓IntWalk.iteOmega]
      have HS2 := hid ((HS1.out.push hne src (by simp; omega)).al (.cells #[.int .i64 (src)] 50))
      go_wp2
      go_loopw [3, 12, 13] (fun vq vf vh wr => ∃ (hd : Nat) (far : Int) (row : Nat → Int) (Q : List Nat) (D U : Array Value), vq = .slice (some ⟨ub, 0, none⟩) (Q.length) F.N ∧ vf = .int .i64 (far) ∧ vh = .int .i64 (hd) ∧ hd ≤ Q.length ∧ Bfs F src row Q hd 0 ∧ farOk row Q far ∧ SrAt w wr F.N rb ro ub D0 row Q D U) (fun _ _ vh _ => F.N - (intOf vh).toNat)
      case atStart =>
        exact ⟨0, 0, upd (fun _ => -1) src 0, [src], _, _, rfl, rfl, rfl, by simp, Bfs.start hs, ⟨fun x hx => by simp at hx; simp [upd, hx], src, by simp, by simp [upd]⟩, HS2.out⟩
      case round =>
        clear HS1 HS2
        obtain ⟨hd, far, row, Q, D2, U2, rfl, rfl, rfl, hhd, hB, hfar, hS⟩ := hrel
        have hlen := hB.len
        have hsz2 := hS.kept.size
        have HB := hid hB
        have HF := hid hfar
        have HS := hid hS
        obtain ⟨nq, hnq⟩ : ∃ nq, Q.length = nq := ⟨_, rfl⟩
        rw [hnq] at hlen hhd ⊢
        have HNQ := hid hnq
        by_cases hlt : hd < nq
        · have hqh : Q[hd]? = some (Q[hd]'(by omega)) := List.getElem?_eq_getElem (by omega)
          generalize (Q[hd]'(by omega)) = c at *
          have hcN : c < F.N := hB.qN c (List.mem_of_getElem? hqh)
          have hcm := List.mem_of_getElem? hqh
          have cu : wr.cell? ⟨ub, hd, none⟩ = some (.int .i64 (c)) := by rw [cell_of_row wr ub hd U2 50 (0, 0) hS.hU]; exact hS.uv hd c hqh
          have cr : wr.cell? ⟨rb, ro + c, none⟩ = some (.int .i16 (row c)) := by rw [cell_of_row wr rb (ro + c) D2 115 (0, 0) hS.hD]; exact hS.dv c hcN
          have hr1 := hB.le hd c hqh
          have hr0 := hB.nn c hcm
          obtain ⟨r, hr⟩ : ∃ r, row c = r := ⟨_, rfl⟩
          rw [hr] at cr hr1 hr0
          have hw16 : IntKind.i16.wrap (r + 1) = r + 1 := by simp [IntKind.wrap, IntKind.signed, IntKind.bits]; omega
          have hw64 : IntKind.i64.wrap (r + 1) = r + 1 := by simp [IntKind.wrap, IntKind.signed, IntKind.bits]; omega
          have HR := hid hr
          have HQH := hid hqh
          have bh : decide ((hd : Int) < nq) = true := by simp; omega
          have hFl : FlN wr F := HH.out.under HU.out hsz2 (fun k hk => hS.kept.block k (by omega) (by omega) (by omega))
          have hLk : Lnk wr F sb cb := HL.out.under HU.out hsz2 (fun k hk => hS.kept.block k (by omega) (by omega) (by omega))
          clear hB hfar hS hnq hr hqh hcm
          obtain ⟨la, hla⟩ : ∃ la, (F.adj c).length = la := ⟨_, rfl⟩
          obtain ⟨no, hno⟩ : ∃ no, F.no c = no := ⟨_, rfl⟩
          have HLA := hid hla
          have HNO := hid hno
          have hla4 : la ≤ 4 := by rw [← hla]; exact F.adjTo_len c 4
          clear hla hno
          go_wp2_with (go_at_call 23; refine (neighbors_is F sb cb c la no _ hFl hLk hN hcN HLA.out HNO.out).mono ?_; rintro e w' ⟨rfl, z1, rfl⟩)
          go_loopw [3, 12, 62] (fun vq vf vt wr => ∃ (t : Nat) (far : Int) (row : Nat → Int) (Q : List Nat) (D U : Array Value), vq = .slice (some ⟨ub, 0, none⟩) (Q.length) F.N ∧ vf = .int .i64 (far) ∧ vt = .int .i64 (t) ∧ t ≤ la ∧ Bfs F src row Q hd t ∧ Q[hd]? = some c ∧ row c = r ∧ farOk row Q far ∧ SrAt w wr F.N rb ro ub D0 row Q D U) (fun _ _ vt _ => la - (intOf vt).toNat)
          case atStart => exact ⟨0, far, row, Q, D2, U2, by rw [HNQ.out], rfl, rfl, Nat.zero_le _, HB.out, HQH.out, HR.out, HF.out, HS.out.ex z1⟩
          case round =>
            clear HB HF HS HR HQH HNQ cu cr hFl hLk hlen hhd hlt bh
            obtain ⟨t, far, row, Q, D2, U2, rfl, rfl, rfl, ht, hB, hqh, hr, hfar, hS⟩ := hrel
            have hlen := hB.len
            have hsz3 := hS.kept.size
            have HB := hid hB
            have HF := hid hfar
            have HS := hid hS
            have HQH := hid hqh
            have HR := hid hr
            obtain ⟨nq, hnq⟩ : ∃ nq, Q.length = nq := ⟨_, rfl⟩
            rw [hnq] at hlen ⊢
            have HNQ := hid hnq
            have hLk : Lnk wr F sb cb := HL.out.under HU.out hsz3 (fun k hk => hS.kept.block k (by omega) (by omega) (by omega))
            by_cases hlt : t < la
            · have hta : t < (F.adj c).length := by rw [HLA.out]; exact hlt
              have cn := hLk.nb hcN hta
              have hbm : (F.adj c)[t] ∈ F.adj c := List.getElem_mem hta
              have hbt : (F.adj c)[t]? = some (F.adj c)[t] := List.getElem?_eq_getElem hta
              rw [HNO.out] at cn
              generalize (F.adj c)[t] = b at *
              have hbN := adj_lt hpl hcN hbm
              have cr : wr.cell? ⟨rb, ro + b, none⟩ = some (.int .i16 (row b)) := by rw [cell_of_row wr rb (ro + b) D2 115 (0, 0) hS.hD]; exact hS.dv b hbN
              have fr : wr.frozen? ⟨rb, ro + b, none⟩ = false := by simp [World.frozen?, hS.hD]
              have hcbs := hLk.lt.2
              have bt : decide ((t : Int) < la) = true := by simp; omega
              obtain ⟨rb2, hrb2⟩ : ∃ x, row b = x := ⟨_, rfl⟩
              rw [hrb2] at cr
              have HRB := hid hrb2
              have HBT := hid hbt
              clear hB hfar hS hqh hr hnq hrb2 hbt hbm hLk
              rcases Bool.eq_false_or_eq_true (rb2 == -1) with hm | hm
              · obtain rfl : rb2 = -1 := by simpa using hm
                have HP := hid (HB.out.push HQH.out HBT.out hbN HRB.out)
                have hnq2 : nq < F.N := by have := HP.out.len; rw [List.length_append, HNQ.out] at this; simp at this; omega
                clear hm
                go_wp2_with (at_builtin; refine hold ?_)
                show wpList _ _ _ _ _ _
                refine wp_room rfl _ _ 52 rfl 50 (.int .i64 0) 8 Tryf.underlying52 (by kernel_rfl) ub nq F.N U2 rfl ?_ (by omega) (by rw [HS.out.us]; omega) _ 1 (.int .i64 (b)) rfl ?_ rfl ?_
                · rw [Below.heap_alloc _ _ _ (by simp; omega), Below.heap_setCell _ _ _ _ (by simpa using Ne.symm hne)]; exact HS.out.hU
                · simp [go_sem, ↓IntWalk.iteOmega]
                have HS3 := hid (((HS.out.setRow hne b (r + 1) hbN hro).push hne b (by rw [HNQ.out]; exact hnq2)).al (.cells #[.int .i64 (b)] 50))
                go_wp2
                go_roundw
                case rel =>
                  have hP := HP.out
                  have hS3 := HS3.out
                  rw [HR.out] at hP
                  rw [HNQ.out] at hS3
                  have hbq : b ∉ Q := fun hm => (HB.out.mem b).2 hm HRB.out
                  have hcq : c ∈ Q := List.mem_of_getElem? HQH.out
                  have hcb : c ≠ b := fun e => hbq (e ▸ hcq)
                  refine ⟨t + 1, r + 1, upd row b (r + 1), Q ++ [b], _, _, by rw [List.length_append, HNQ.out]; rfl, rfl, by go_num, by omega, hP, ?_, ?_, ⟨fun x hx => ?_, b, by simp, by simp [upd]⟩, hS3⟩
                  · have hh := (List.getElem?_eq_some_iff.1 HQH.out).1
                    rw [List.getElem?_append_left hh]; exact HQH.out
                  · simp only [upd]; rw [if_neg hcb]; exact HR.out
                  · have := hP.near c x (by have hh := (List.getElem?_eq_some_iff.1 HQH.out).1; rw [List.getElem?_append_left hh]; exact HQH.out) hx
                    have hc1 : upd row b (r + 1) c = r := by simp only [upd]; rw [if_neg hcb]; exact HR.out
                    rw [hc1] at this
                    exact this
                case measure => simp [intOf]; omega
              · have hm2 : (rb2 != -1) = true := by simp [bne, hm]
                go_wp2
                go_roundw
                case rel => exact ⟨t + 1, far, row, Q, D2, U2, by rw [HNQ.out], rfl, by go_num, by omega, HB.out.skip HQH.out HBT.out (by rw [HRB.out]; intro e; rw [e] at hm; cases hm), HQH.out, HR.out, HF.out, HS.out⟩
                case measure => simp [intOf]; omega
            · have hhq : hd < nq := by have := (List.getElem?_eq_some_iff.1 HQH.out).1; rw [HNQ.out] at this; exact this
              go_wp2
              go_roundw
              case rel => exact ⟨hd + 1, far, row, Q, D2, U2, by rw [HNQ.out], rfl, by go_num, by have := (List.getElem?_eq_some_iff.1 HQH.out).1; omega, HB.out.next HQH.out (by rw [HLA.out]; omega), HF.out, HS.out⟩
              case measure => simp [intOf]; omega
        · go_wp2
          go_ret
          exact ⟨far, row, Q, D2, U2, rfl, by rw [HNQ.out, ← show hd = nq by omega]; exact HB.out, HF.out, HS.out⟩
end Go.Proofs.Qxb6500715aFmt
