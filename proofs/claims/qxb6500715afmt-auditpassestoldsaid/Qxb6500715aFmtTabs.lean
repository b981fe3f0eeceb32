/-
  buildTables: the walk.
-/
import Derived.Test.Qxb6500715aFmtSrch1
namespace Go.Proofs.Qxb6500715aFmt
open Go.RowKit
set_option linter.unusedSimpArgs false
set_option linter.unusedVariables false

/-- The tables in memory: the first k rows. -/
structure TabAt (w : World) (F : FP) (tb db k NN : Nat) (dist : Nat → Nat → Int) (dia : Int) (D : Array Value) : Prop where
  ht : w.heap[tb]? = some (.cells #[.int .i64 (F.N), .slice (some ⟨db, 0, none⟩) NN NN, .int .i64 (dia)] 93)
  hD : w.heap[db]? = some (.cells D 115)
  ds : D.size = NN
  dv : ∀ a b, a < k → b < F.N → D[a * F.N + b]? = some (.int .i16 (dist a b))
  bfs : ∀ a, a < k → ∃ Q, Bfs F a (dist a) Q Q.length 0 ∧ ∀ b, b ∈ Q → dist a b ≤ dia
  d0 : 0 ≤ dia ∧ dia ≤ 384

set_option maxRecDepth 20000 in
set_option maxHeartbeats 2000000 in
theorem tables_any (F : FP) (sb cb : Nat) (w : World) (h : FlN w F) (hl : Lnk w F sb cb) (hu : Under F sb cb w.heap.size) (hN : 1 ≤ F.N ∧ F.N ≤ 384) :
    Calls Tryf.prog 53 #[.pointer (some ⟨F.fb, 0, none⟩)] w fun e w' => ∃ (tb db NN : Nat) (dist : Nat → Nat → Int) (dia : Int) (D : Array Value), (e = .returned (.pointer (some ⟨tb, 0, none⟩)) ∧ w.heap.size ≤ tb ∧ w.heap.size ≤ db) ∧ TabAt w' F tb db F.N NN dist dia D ∧ ∃ z, w' = w.ext z := by
  have HH := hid h
  have HL := hid hl
  have HU := hid hu
  obtain ⟨NN, hNN⟩ : ∃ NN, NN = F.N * F.N := ⟨_, rfl⟩
  have hNb : NN ≤ 147456 := by rw [hNN]; exact Nat.mul_le_mul hN.2 hN.2
  have e0 : (F.N : Int) * (F.N : Int) = NN := by rw [hNN]; exact (Int.natCast_mul _ _).symm
  obtain ⟨Z1, hZ1, -, hmk1⟩ := make_is (P := Tryf.prog) 91 115 (.int .i16 0) 1 2 Tryf.underlying91 (by kernel_rfl) NN (by omega) (by omega)
  obtain ⟨Z2, hZ2, hmk2⟩ := make_cap (P := Tryf.prog) 52 50 (.int .i64 0) 1 8 Tryf.underlying52 (by kernel_rfl) F.N (by omega) (by omega)
  have hwN : IntKind.i64.wrap (NN : Int) = NN := wrapped NN (by omega)
  have HNN := hid hNN
  clear h hl hu hNN
  go_enter Tryf.func53, Tryf.ntmps53
  go_wp2_with (go_at_call 30; refine (cells_any F _ HH.out).mono ?_; rintro e w ⟨rfl, rfl⟩)
  obtain ⟨db, hdb⟩ : ∃ db, db = w.heap.size := ⟨_, rfl⟩
  have HU2 : Hid (Under F sb cb db) := by rw [hdb]; exact HU.out
  rw [← hdb]
  have HDB := hid hdb
  clear hdb
  go_loopw [6] (fun x wr => ∃ (k : Nat) (dist : Nat → Nat → Int) (dia : Int) (D U : Array Value), k ≤ F.N ∧ x = .int .i64 (k) ∧ TabAt wr F (db + 1) db k NN dist dia D ∧ (wr.heap[db + 2]? = some (.cells U 50) ∧ U.size = F.N) ∧ Below db w wr) (fun x _ => F.N - (intOf x).toNat)
  case atStart =>
    have hdb := HDB.out
    refine ⟨0, fun _ _ => 0, 0, Z1, Z2, Nat.zero_le _, rfl, ⟨?_, ?_, by omega, fun a b ha => by omega, fun a ha => by omega, by omega⟩, ⟨?_, by omega⟩, ?_⟩
    · have := (MapKept.heap_alloc (w.alloc (.cells Z1 115)) (.cells #[.int .i64 (F.N), .slice (some ⟨db, 0, none⟩) NN NN, .int .i64 (0)] 93)).1
      rw [Below.heap_alloc _ _ _ (by simp; omega)]
      simpa [hdb] using this
    · have := (MapKept.heap_alloc w (.cells Z1 115)).1
      rw [Below.heap_alloc _ _ _ (by simp; omega), Below.heap_alloc _ _ _ (by simp; omega)]
      simpa [hdb] using this
    · have := (MapKept.heap_alloc ((w.alloc (.cells Z1 115)).alloc (.cells #[.int .i64 (F.N), .slice (some ⟨db, 0, none⟩) NN NN, .int .i64 (0)] 93)) (.cells Z2 50)).1
      simpa [hdb] using this
    · rw [hdb]; exact (((Below.rf w).al _).al _).al _
  case round =>
    obtain ⟨k, dist, dia, D, U, hk, rfl, hT, ⟨hU, hUs⟩, hB⟩ := hrel
    have HT := hid hT
    have HB := hid hB
    have hs1 := hB.size
    have hsz : db + 2 < wr.heap.size := (Array.getElem?_eq_some_iff.1 hU).1
    have c1 : wr.cell? ⟨db + 1, 1, none⟩ = some (.slice (some ⟨db, 0, none⟩) NN NN) := by rw [cell_of_row wr (db + 1) 1 _ 93 (0, 0) hT.ht]; rfl
    have c2 : wr.cell? ⟨db + 1, 2, none⟩ = some (.int .i64 (dia)) := by rw [cell_of_row wr (db + 1) 2 _ 93 (0, 0) hT.ht]; rfl
    have f2 : wr.frozen? ⟨db + 1, 2, none⟩ = false := by simp [World.frozen?, hT.ht]
    by_cases hlk : k < F.N
    · obtain ⟨a1, ha1⟩ : ∃ a1, a1 = k * F.N := ⟨_, rfl⟩
      have e1 : (k : Int) * (F.N : Int) = a1 := by rw [ha1]; exact (Int.natCast_mul _ _).symm
      have e2 : ((k : Int) + 1) * (F.N : Int) = a1 + F.N := by rw [Int.add_mul, e1, Int.one_mul]
      have hle : a1 + F.N ≤ NN := by
        have h1 : (k + 1) * F.N ≤ F.N * F.N := Nat.mul_le_mul_right _ (by omega)
        rw [Nat.add_mul, Nat.one_mul, ← ha1, ← HNN.out] at h1
        exact h1
      have hw1 : IntKind.i64.wrap (a1 : Int) = a1 := wrapped a1 (by omega)
      have hw2 : IntKind.i64.wrap ((a1 : Int) + F.N) = a1 + F.N := wrapped (a1 + F.N) (by omega)
      have hsl : ∀ w', (Instr.sliceAt 91 (.slice (some ⟨db, 0, none⟩) NN NN) (some (.int .i64 (a1))) (some (.int .i64 ((a1 : Int) + F.N))) none).run Tryf.prog w' = .ok (.slice (some ⟨db, a1, none⟩) F.N (NN - a1)) w' := fun w' => by
        have := slice_lh (P := Tryf.prog) 91 115 Tryf.underlying91 2 (.int .i16 0) (by kernel_rfl) db 0 NN NN a1 (a1 + F.N) a1 (a1 + F.N) rfl (by omega) (by omega) hle (by omega) w'
        rw [show a1 + F.N - a1 = F.N by omega, Nat.zero_add] at this
        exact this
      have HA1 := hid ha1
      have hFl : FlN wr F := HH.out.under HU2.out hs1 (fun j hj => hB.block j hj)
      have hLk : Lnk wr F sb cb := HL.out.under HU2.out hs1 (fun j hj => hB.block j hj)
      clear ha1 hT hB
      go_wp2_with fail
      refine (search_any F sb cb db k db a1 (NN - a1) (db + 2) D U _ hFl hLk HU2.out hN.2 hlk (by omega) (by omega) (by omega) (by omega) HT.out.hD (by rw [HT.out.ds]; exact hle) hU hUs).mono ?_
      rintro e w2 ⟨far, row, Q, D2, U2, rfl, hBf, hfar, hS⟩
      have hs2 := hS.kept.size
      have ht2 : w2.heap[db + 1]? = some (.cells #[.int .i64 (F.N), .slice (some ⟨db, 0, none⟩) NN NN, .int .i64 (dia)] 93) := (hS.kept.block (db + 1) (by omega) (by omega) (by omega)).trans HT.out.ht
      have d2 : w2.cell? ⟨db + 1, 2, none⟩ = some (.int .i64 (dia)) := by rw [cell_of_row w2 (db + 1) 2 _ 93 (0, 0) ht2]; rfl
      have g2 : w2.frozen? ⟨db + 1, 2, none⟩ = false := by simp [World.frozen?, ht2]
      have hfb := far_bound hBf hfar
      have HT2 := hid ht2
      have HS := hid hS
      have HBF := hid hBf
      have HFA := hid hfar
      clear hS hBf hfar ht2 hFl hLk c1 c2 f2 hU
      go_wp2
      go_roundw
      case rel =>
        have hdia : dia ≤ (if dia < far then far else dia) ∧ far ≤ (if dia < far then far else dia) ∧ (if dia < far then far else dia) ≤ 384 ∧ 0 ≤ (if dia < far then far else dia) := by
          have := HT.out.d0; split <;> omega
        generalize (if dia < far then far else dia) = dia2 at *
        have hk2 := HS.out.kept
        refine ⟨k + 1, fun a b => if a = k then row b else dist a b, dia2, D2, U2, by omega, by go_num, ⟨?_, ?_, by rw [HS.out.ds]; exact HT.out.ds, fun a b ha hb => ?_, fun a ha => ?_, by omega⟩, ⟨?_, HS.out.us⟩, ?_⟩
        · exact heap_setCell_same w2 (db + 1) 2 _ 93 _ HT2.out
        · rw [Below.heap_setCell _ _ _ _ (by simp)]; exact HS.out.hD
        · by_cases hak : a = k
          · subst hak
            simp only [if_true]
            rw [← HA1.out]; exact HS.out.dv b hb
          · simp only [if_neg hak]
            have h1 : (a + 1) * F.N ≤ k * F.N := Nat.mul_le_mul_right _ (by omega)
            rw [Nat.add_mul, Nat.one_mul, ← HA1.out] at h1
            rw [HS.out.dout _ (Or.inl (by omega))]
            exact HT.out.dv a b (by omega) hb
        · by_cases hak : a = k
          · subst hak
            exact ⟨Q, by simpa using HBF.out, fun b hb => by have := HFA.out.1 b hb; simp only [if_true]; omega⟩
          · obtain ⟨Q', h1, h2⟩ := HT.out.bfs a (by omega)
            exact ⟨Q', by simpa [hak] using h1, fun b hb => by have := h2 b hb; simp only [if_neg hak]; omega⟩
        · rw [Below.heap_setCell _ _ _ _ (by simp)]; exact HS.out.hU
        · refine Below.setCell ?_ (by simp) _
          exact HB.out.trans ⟨hk2.os, hk2.tape, hk2.output, hk2.size, fun j hj => hk2.block j (by omega) (by omega) (by omega)⟩
      case measure => simp [intOf]; omega
    · obtain rfl : k = F.N := by omega
      go_wp2
      go_ret
      exact ⟨db + 1, db, NN, dist, dia, D, ⟨rfl, by rw [← HDB.out]; omega, by rw [← HDB.out]; omega⟩, HT.out, Below.is_ext (by rw [← HDB.out]; exact HB.out)⟩
end Go.Proofs.Qxb6500715aFmt
