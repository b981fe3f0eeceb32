/-
  EncodingRoundTrips: the walk.
-/
import Derived.Test.Qxb6500715aDoorLaw8
namespace Go.Proofs.Qxb6500715aDoor
open Go.RowKit
set_option linter.unusedSimpArgs false
set_option linter.unusedVariables false

set_option maxRecDepth 20000 in
set_option maxHeartbeats 2000000 in
theorem law8 (sb so n cap : Nat) (K A B : Nat → Int) (dao : Nat → Option Addr) (dlen dcap : Nat → Nat) (f : Nat → Nat → Int) (w : World) (hG : Globs w) (hS : Script w sb so n K A B dao dlen dcap f) (hn : n ≤ 9223372036854775807) :
    Calls Tryd.prog 8 #[.slice (some ⟨sb, so, none⟩) n cap] w fun e w' => e = .returned (.bool true) ∧ ∃ z, w' = w.ext z := by
  have HS := hid hS
  have HG := hid hG
  have hsb := hS.hsb
  clear hS hG
  go_enter Tryd.func8, Tryd.ntmps8
  go_wp2_with fail
  refine (small_any sb so n cap dao dlen dcap w hn HS.out.hD (fun i hi => (HS.out.hlen i hi).2)).mono ?_
  rintro e w1 ⟨b, rfl, hb, hw1⟩
  obtain rfl : w = w1 := hw1.symm
  clear hw1
  cases b with
  | false =>
    go_wp2
    go_ret
    exact ⟨rfl, (Below.rf _).is_ext⟩
  | true =>
    obtain ⟨hn1, hdl⟩ := hb rfl
    have HDL := hid hdl
    clear hb hdl
    go_wp2_with fail
    go_loopw [14] (fun i w' => ∃ (k : Nat) (z : World), k ≤ n ∧ i = .int .i64 (k) ∧ w' = w.ext z) (fun i _ => n - (intOf i).toNat)
    case atStart => obtain ⟨z, hz⟩ := (Below.rf w).is_ext; exact ⟨0, z, Nat.zero_le _, rfl, hz⟩
    case round =>
      obtain ⟨k, z, hk, rfl, rfl⟩ := hrel
      by_cases hlt : k < n
      · have h0 := HS.out.hK k hlt
        have h1 := HS.out.hA k hlt
        have h2 := HS.out.hB k hlt
        have h3 := HS.out.hD k hlt
        rcases Bool.eq_false_or_eq_true (K k != 0) with hk0 | hk0
        · go_wp2_with fail
          go_roundw
          case rel => obtain ⟨z', hz'⟩ := ((World.below_ext w z).al (.cells #[.int .i64 (K k), .int .i64 (A k), .int .i64 (B k), .slice (dao k) (dlen k) (dcap k)] 61)).is_ext; exact ⟨k + 1, z', by omega, by go_num, hz'⟩
          case measure => simp [intOf]; omega
        · go_wp2_with fail
          have hB1 : Below w.heap.size w ((w.ext z).alloc (.cells #[.int .i64 (K k), .int .i64 (A k), .int .i64 (B k), .slice (dao k) (dlen k) (dcap k)] 61)) := (World.below_ext w z).al _
          have HB1 := hid hB1
          refine (decode_all (dao k) (dlen k) (dcap k) (f k) _ (HG.out.below hB1) (by have := HDL.out k hlt; omega) (HS.out.hlen k hlt).1 (HS.out.hf k) ?_).mono ?_
          · intro hpos
            obtain ⟨b, off, g1, g2, g3⟩ := HS.out.hdata k hlt hpos
            exact ⟨b, off, g1, Nat.lt_of_lt_of_le g2 hB1.size, fun j hj => by rw [hB1.cell g2]; exact g3 j hj⟩
          clear hB1
          rintro e w2 (⟨hok, hpost⟩ | ⟨hno, kk, o, rfl, hkk, z2, rfl⟩)
          · obtain ⟨pb, hpb1, hpb2, hp0, hp1, rfl, z2, hz2⟩ := hpost
            have hB2 : Below ((w.ext z).alloc (.cells #[.int .i64 (K k), .int .i64 (A k), .int .i64 (B k), .slice (dao k) (dlen k) (dcap k)] 61)).heap.size ((w.ext z).alloc (.cells #[.int .i64 (K k), .int .i64 (A k), .int .i64 (B k), .slice (dao k) (dlen k) (dcap k)] 61)) w2 := by rw [hz2]; exact World.below_ext _ _
            have hB3 : Below w.heap.size w w2 := HB1.out.trans (hB2.mono HB1.out.size)
            have HB3 := hid hB3
            have d3 : w2.cell? ⟨w.heap.size + z.heap.size, 3, none⟩ = some (.slice (dao k) (dlen k) (dcap k)) := by
              rw [hB2.cell (by simp)]; simp [go_sem, ↓IntWalk.iteOmega]
            have hs2 : w.heap.size + z.heap.size + 1 ≤ w2.heap.size := by have := hB2.size; simpa using this
            have hG2 := hid (HG.out.below hB3)
            have HOK := hid hok
            have HP0 := hid hp0
            have HP1 := hid hp1
            clear hz2 hB2 hB3 hok hp0 hp1 hpb1 h0 h1 h2 h3
            obtain ⟨n', hn'⟩ : ∃ n', n' = (f k 8).toNat := ⟨_, rfl⟩
            rw [← hn'] at HP0 HP1 ⊢
            have HN := hid hn'
            clear hn'
            go_wp2_with (go_at_call 41; refine (accepted_any _ _ _).mono ?_; rintro e w' ⟨rfl, z3, rfl⟩)
            have hok := HOK.out
            obtain ⟨⟨f9, f0, f1, f8, flen, fsum⟩, flay⟩ := hok
            have en : f k 8 = (n' : Int) := by have := HN.out; omega
            have elen : dlen k = 10 + 2 * n' := by omega
            have hpos : 0 < dlen k := by omega
            have flay' : layOk (f k 2) (f k 3) (f k 4) (f k 5) (f k 6) (f k 7) n' (fun i => f k (9 + 2 * i)) (fun i => f k (10 + 2 * i)) := by rw [HN.out]; exact flay
            refine (encode_any (f k 2) (f k 3) (f k 4) (f k 5) (f k 6) (f k 7) pb 0 n' n' (fun i => f k (9 + 2 * i)) (fun i => f k (10 + 2 * i)) _ (f k) (Nat.le_refl _) ?_ ?_ ?_ ?_ ?_ ?_ flay' f0 f1 rfl rfl rfl rfl rfl rfl en (fun _ _ => rfl) (fun _ _ => rfl) ?_ (HS.out.hf k)).mono ?_
            · have := hG2.out.h0; (first | omega | (simp only [World.size_ext, World.size_alloc, World.size_setCell, World.size_drew, Array.size_append]; done) | (simp only [World.size_ext, World.size_alloc, World.size_setCell, World.size_drew, Array.size_append]; omega))
            · (first | omega | (simp only [World.size_ext, World.size_alloc, World.size_setCell, World.size_drew, Array.size_append]; done) | (simp only [World.size_ext, World.size_alloc, World.size_setCell, World.size_drew, Array.size_append]; omega))
            · have := hG2.out.h0; simp [go_sem, ↓IntWalk.iteOmega]; exact hG2.out.g0
            · have := hG2.out.h0; simp [go_sem, ↓IntWalk.iteOmega]; exact hG2.out.g1
            · intro i hi; simp [go_sem, ↓IntWalk.iteOmega]; exact HP0.out i hi
            · intro i hi; simp [go_sem, ↓IntWalk.iteOmega]; exact HP1.out i hi
            · rw [elen, show 10 + 2 * n' - 1 = 9 + 2 * n' by omega] at fsum; exact fsum.symm
            rintro e w3 ⟨v, rfl, hown, z4, rfl⟩
            obtain ⟨gb, cp, rfl, hcp, hgb, hgb', hgc⟩ := ownsRow_cells hown (by omega)
            have GC := hid hgc
            have hgb2 : gb < w2.heap.size + 1 + 1 + z3.heap.size + z4.heap.size := by simpa [Nat.add_assoc] using hgb'
            have EL := hid elen
            clear hown hgc hgb' f9 f0 f1 f8 flen fsum flay flay' en elen HOK HP0 HP1 HN
            go_wp2_with (go_at_call 41; refine (accepted_any _ _ _).mono ?_; rintro e w' ⟨rfl, z5, rfl⟩)
            obtain ⟨b, off, hdao, hbw, hbc⟩ := HS.out.hdata k hlt hpos
            refine (equal_same _ _ (listOf (f k) (10 + 2 * n')) _ (conv_bytes (f k) gb 0 (10 + 2 * n') cp _ ?_) ?_).mono ?_
            · intro i hi
              have hx := GC.out i _ (rowOf_get (f k) _ i hi)
              rw [World.ext_ext] at hx
              rw [Nat.zero_add]
              simp [go_sem, ↓IntWalk.iteOmega]
              exact hx
            · rw [hdao, EL.out]
              refine conv_bytes (f k) b off (10 + 2 * n') (dcap k) _ ?_
              intro i hi
              have hx := hbc i (by rw [EL.out]; exact hi)
              rw [← HB3.out.cell hbw] at hx
              have hbw2 : b < w2.heap.size := Nat.lt_of_lt_of_le hbw HB3.out.size
              simp [go_sem, ↓IntWalk.iteOmega]
              exact hx
            rintro e w4 ⟨rfl, z6, rfl⟩
            go_wp2
            go_roundw
            case rel =>
              obtain ⟨z', hz'⟩ := (((((((HB3.out.al (.cells #[.int .i64 (f k 2), .int .i64 (f k 3), .int .i64 (f k 4), .int .i64 (f k 5), .int .i64 (f k 6), .int .i64 (f k 7), .slice (some ⟨pb, 0, none⟩) n' n'] 66)).al (.cells #[.int .u8 0, .int .i64 (0)] 69)).ex z3).ex z4).al (.cells #[.int .u8 0, .int .i64 (0)] 69)).ex z5).ex z6).is_ext
              simp only [World.ext_ext] at hz'
              exact ⟨k + 1, z', by omega, by go_num, hz'⟩
            case measure => simp [intOf]; omega
          · go_wp2_with (go_at_call 41; refine (Calls.tf (accepted_any _ _ _) hkk).mono ?_; rintro e w' ⟨rfl, z3, rfl⟩)
            go_roundw
            case rel =>
              obtain ⟨z', hz'⟩ := ((((((World.below_ext w z).al (.cells #[.int .i64 (K k), .int .i64 (A k), .int .i64 (B k), .slice (dao k) (dlen k) (dcap k)] 61)).ex z2).al (.cells #[.int .i64 (0), .int .i64 (0), .int .i64 (0), .int .i64 (0), .int .i64 (0), .int .i64 (0), .slice none 0 0] 66)).al (.cells #[.int .u8 kk, .int .i64 (o)] 69)).ex z3).is_ext
              exact ⟨k + 1, z', by omega, by go_num, hz'⟩
            case measure => simp [intOf]; omega
      · go_wp2
        go_ret
        exact ⟨rfl, ⟨_, rfl⟩⟩
end Go.Proofs.Qxb6500715aDoor
