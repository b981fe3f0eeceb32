/-
  zzSmall1, bytes.Equal, EncodingRoundTrips: the walks.
-/
import Derived.Test.Qxb6500715aFmtEncode
namespace Go.Proofs.Qxb6500715aFmt
open Go.RowKit
set_option linter.unusedSimpArgs false
set_option linter.unusedVariables false

/-- The size guard's answer; true: nothing is great. -/
def SmallPost (n : Nat) (dlen : Nat → Nat) (w : World) (e : Ending) (w' : World) : Prop :=
  ∃ b, e = .returned (.bool b) ∧ (b = true → n ≤ 65536 ∧ ∀ i, i < n → dlen i ≤ 65536) ∧ w' = w

set_option maxHeartbeats 1000000 in
theorem small_any (sb so n cap : Nat) (dao : Nat → Option Addr) (dlen dcap : Nat → Nat) (w : World) (hn : n ≤ 9223372036854775807)
    (hd : ∀ i, i < n → w.cell? ⟨sb, so + i * 4 + 3, none⟩ = some (.slice (dao i) (dlen i) (dcap i))) (hdl : ∀ i, i < n → dlen i ≤ 140737488355328) :
    Calls Tryf.prog 4 #[.slice (some ⟨sb, so, none⟩) n cap] w (SmallPost n dlen w) := by
  by_cases h1 : 65536 < n
  · go_enter Tryf.func4, Tryf.ntmps4
    go_wp2
    go_ret
    exact ⟨false, rfl, nofun, rfl⟩
  · go_enter Tryf.func4, Tryf.ntmps4
    go_wp2
    go_loop [3, 4] (fun s i => ∃ (k : Nat) (t : Nat), k ≤ n ∧ t ≤ 65536 ∧ i = .int .i64 (k) ∧ s = .int .i64 (t) ∧ ∀ j, j < k → dlen j ≤ 65536) (fun _ i => n - (intOf i).toNat)
    case atStart => exact ⟨0, n, by omega, by omega, rfl, rfl, fun j hj => by omega⟩
    case round =>
      obtain ⟨k, t, hk, ht, rfl, rfl, hall⟩ := hrel
      by_cases hlt : k < n
      · have g := hd k hlt
        have gl := hdl k hlt
        by_cases h2 : 65536 < t + dlen k
        · go_wp2
          go_ret
          exact ⟨false, rfl, nofun, rfl⟩
        · go_wp2
          go_round
          case rel => exact ⟨k + 1, t + dlen k, by omega, by omega, by go_num, by go_num, upto hall (by omega)⟩
          case measure => simp [intOf]; omega
      · go_wp2
        go_ret
        exact ⟨true, rfl, fun _ => ⟨by omega, fun i hi => hall i (by omega)⟩, rfl⟩

theorem small_nil (w : World) : Calls Tryf.prog 4 #[.slice none 0 0] w fun e w' => e = .returned (.bool true) ∧ w' = w := by
  go_enter Tryf.func4, Tryf.ntmps4
  go_wp2
  refine wp_loop_once ?_
  go_wp2
  go_ret
  exact ⟨rfl, rfl⟩

/-- The first n of g's numbers. -/
def listOf (g : Nat → Int) (n : Nat) : List Int := (List.range n).map g
theorem listOf_get (g : Nat → Int) (n i : Nat) (h : i < n) : (listOf g n).getD i 0 = g i := by simp [listOf, h]
theorem listOf_len (g : Nat → Int) (n : Nat) : (listOf g n).length = n := by simp [listOf]

theorem conv_bytes (g : Nat → Int) (b off len cap : Nat) (w : World) (hc : ∀ i, i < len → w.cell? ⟨b, off + i, none⟩ = some (.int .u8 (g i))) :
    (convert 31 9 (.slice (some ⟨b, off, none⟩) len cap)).run Tryf.prog w = .ok (.string (strOfNums (listOf g len))) w :=
  run_convert_bytes_arg w 31 5 Tryf.underlying31 Tryf.underlying5 b off len cap (listOf g len) (listOf_len g len) (fun i hi => by rw [listOf_get g len i hi]; exact hc i hi) 9 Tryf.underlying9

/-- What a script's memory holds. -/
structure Script (w : World) (sb so n : Nat) (K A B : Nat → Int) (dao : Nat → Option Addr) (dlen dcap : Nat → Nat) (f : Nat → Nat → Int) : Prop where
  hsb : sb < w.heap.size
  hK : ∀ i, i < n → w.cell? ⟨sb, so + i * 4, none⟩ = some (.int .i64 (K i))
  hA : ∀ i, i < n → w.cell? ⟨sb, so + i * 4 + 1, none⟩ = some (.int .i64 (A i))
  hB : ∀ i, i < n → w.cell? ⟨sb, so + i * 4 + 2, none⟩ = some (.int .i64 (B i))
  hD : ∀ i, i < n → w.cell? ⟨sb, so + i * 4 + 3, none⟩ = some (.slice (dao i) (dlen i) (dcap i))
  hlen : ∀ i, i < n → dlen i ≤ dcap i ∧ dlen i ≤ 140737488355328
  hf : ∀ i j, 0 ≤ f i j ∧ f i j < 256
  hdata : ∀ i, i < n → 0 < dlen i → ∃ b off, dao i = some ⟨b, off, none⟩ ∧ b < w.heap.size ∧ ∀ j, j < dlen i → w.cell? ⟨b, off + j, none⟩ = some (.int .u8 (f i j))

/-- The variable 'accepted', as it is laid. -/
structure Globs (w : World) : Prop where
  h0 : 0 < w.heap.size
  g0 : w.cell? ⟨0, 0, none⟩ = some (.int .u8 0)
  g1 : w.cell? ⟨0, 1, none⟩ = some (.int .i64 0)

theorem Globs.below {w w' : World} (h : Globs w) (hb : Below w.heap.size w w') : Globs w' :=
  ⟨Nat.lt_of_lt_of_le h.h0 hb.size, by rw [hb.cell h.h0]; exact h.g0, by rw [hb.cell h.h0]; exact h.g1⟩

/-- DecodeLayout, whatever the bytes. -/
theorem decode_all (ao : Option Addr) (len cap : Nat) (f : Nat → Int) (w : World) (hG : Globs w) (hm : len ≤ 1000000) (hlc : len ≤ cap) (hr : ∀ i, 0 ≤ f i ∧ f i < 256)
    (hd : 0 < len → ∃ b off, ao = some ⟨b, off, none⟩ ∧ b < w.heap.size ∧ ∀ j, j < len → w.cell? ⟨b, off + j, none⟩ = some (.int .u8 (f j))) :
    Calls Tryf.prog 17 #[.slice ao len cap] w fun e w' => (decOk f len ∧ decPost f (f 8).toNat w e w') ∨ (¬ decOk f len ∧ ∃ k o, e = .returned (.tuple #[.agg #[.int .i64 (0), .int .i64 (0), .int .i64 (0), .int .i64 (0), .int .i64 (0), .int .i64 (0), .slice none 0 0], .agg #[.int .u8 k, .int .i64 (o)]]) ∧ (k == 0) = false ∧ ∃ z, w' = w.ext z) := by
  by_cases h9 : len < 9
  · refine (decode_frameBad _ _ fun w1 _ => (checkFrame_short ao len cap w1 h9).mono fun e w' ⟨k, o, h1, h2, h3⟩ => ⟨k, o, h1, by simpa using h2, h3⟩).mono fun e w' h => .inr ⟨fun hd => ?_, h⟩
    have := hd.1.1; omega
  · obtain ⟨b, off, rfl, hb, hc⟩ := hd (by omega)
    by_cases hf : frameOk f len
    · have h8 := hf.2.2.2.1
      refine (decode_good b off len cap f w hm hlc hr hG.h0 hb hG.g0 hG.g1 hc hf (f 8).toNat (by omega)).mono fun e w' h => ?_
      rcases h with ⟨h1, h2⟩ | ⟨h1, h2⟩
      · exact .inl ⟨⟨hf, h1⟩, h2⟩
      · exact .inr ⟨fun h => h1 h.2, h2⟩
    · refine (decode_frameBad _ _ fun w1 ⟨z, hz⟩ => ?_).mono fun e w' h => .inr ⟨fun hd => hf hd.1, h⟩
      subst hz
      refine calls_verdict (checkFrame_any b off len cap f _ hm hlc (by omega) hr (by simp; have := hG.h0; omega) (by simp; omega) ?_ ?_ ?_) hf
      · rw [World.cell?_ext_old w z _ hG.h0]; exact hG.g0
      · rw [World.cell?_ext_old w z _ hG.h0]; exact hG.g1
      · intro i hi; rw [World.cell?_ext_old w z _ hb]; exact hc i hi

end Go.Proofs.Qxb6500715aFmt
