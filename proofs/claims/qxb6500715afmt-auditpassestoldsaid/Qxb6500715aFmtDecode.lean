/-
  DecodeLayout.
-/
import Derived.Test.Qxb6500715aFmtFrame
namespace Go.Proofs.Qxb6500715aFmt
open Go.RowKit
set_option linter.unusedSimpArgs false
set_option linter.unusedVariables false

/-- What an encoded layout's bytes say: sound framing, and a sound layout. -/
def decOk (f : Nat → Int) (len : Nat) : Prop :=
  frameOk f len ∧ layOk (f 2) (f 3) (f 4) (f 5) (f 6) (f 7) (f 8).toNat (fun i => f (9 + 2 * i)) (fun i => f (10 + 2 * i))

theorem calls_verdict {P : Program} {f : FuncId} {args : Array Value} {w : World} {q : Prop} (h : Calls P f args w fun e w' => ∃ k o, e = .returned (.agg #[.int .u8 k, .int .i64 o]) ∧ (k = 0 ↔ q) ∧ ∃ z, w' = w.ext z)
    (hq : ¬ q) : Calls P f args w fun e w' => ∃ k o, e = .returned (.agg #[.int .u8 k, .int .i64 o]) ∧ (k == 0) = false ∧ ∃ z, w' = w.ext z :=
  h.mono fun _ _ ⟨k, o, h1, h2, h3⟩ => ⟨k, o, h1, by simp; exact fun h => hq (h2.1 h), h3⟩

set_option maxHeartbeats 1000000 in
theorem decode_frameBad (v : Value) (w : World) (hf : ∀ w1, (∃ z, w1 = w.ext z) → Calls Tryf.prog 44 #[v] w1 fun e w' => ∃ k o, e = .returned (.agg #[.int .u8 k, .int .i64 (o)]) ∧ (k == 0) = false ∧ ∃ z, w' = w1.ext z) :
    Calls Tryf.prog 17 #[v] w fun e w' => ∃ k o, e = .returned (.tuple #[.agg #[.int .i64 (0), .int .i64 (0), .int .i64 (0), .int .i64 (0), .int .i64 (0), .int .i64 (0), .slice none 0 0], .agg #[.int .u8 k, .int .i64 (o)]]) ∧ (k == 0) = false ∧ ∃ z, w' = w.ext z := by
  have HF := hf _ (((Below.rf w).al (.cells #[.int .i64 (0), .int .i64 (0), .int .i64 (0), .int .i64 (0), .int .i64 (0), .int .i64 (0), .slice none 0 0] 46)).al (.cells #[.int .u8 0, .int .i64 0] 36)).is_ext
  clear hf
  go_enter Tryf.func17, Tryf.ntmps17
  go_wp2_with fail
  refine HF.mono ?_
  clear HF
  rintro e w' ⟨k, o, rfl, hk, z, rfl⟩
  go_wp2_with (go_at_call 8; refine (Calls.tf (accepted_any _ _ _) hk).mono ?_; rintro e w' ⟨rfl, z, rfl⟩)
  go_region
  go_wp2
  refine bodyPost_ret (v := .tuple #[.agg #[.int .i64 (0), .int .i64 (0), .int .i64 (0), .int .i64 (0), .int .i64 (0), .int .i64 (0), .slice none 0 0], .agg #[.int .u8 k, .int .i64 (o)]]) (by simp [results, Tryf.results17, go_sem, ↓IntWalk.iteOmega]) rfl ⟨k, _, rfl, hk, ?_⟩
  refine Below.is_ext ?_
  repeat (first | with_reducible exact Below.rf _ | with_reducible exact World.below_ext _ _ | with_reducible refine Below.ex ?_ _ | with_reducible refine Below.al ?_ _ | with_reducible refine Below.setCell ?_ (by simp) _ | with_reducible refine Below.drew ?_)
end Go.Proofs.Qxb6500715aFmt
