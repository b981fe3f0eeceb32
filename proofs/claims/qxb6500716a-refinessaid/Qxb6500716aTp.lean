/-
  Plain: what every change of the table keeps.
-/
import Derived.Test.Qxb6500716aTn
namespace Go.Proofs.Qxb6500716a
open Go.RowKit Go.Maps
set_option linter.unusedSimpArgs false
set_option linter.unusedVariables false
set_option maxRecDepth 20000
set_option maxHeartbeats 4000000

/-- The numbers that never change; no more is held than the capacity. -/
structure TFx (T T' : TS) : Prop where
  nc : T'.nc = T.nc
  nr : T'.nr = T.nr
  cap : T'.cap = T.cap
  held : T.held ≤ T.cap → T'.held ≤ T'.cap
theorem or_map {a b c : Prop} (h : a ∨ b) (f : b → c) : a ∨ c := h.elim Or.inl (fun x => Or.inr (f x))
theorem TFx.rf (T : TS) : TFx T T := ⟨rfl, rfl, rfl, id⟩
theorem TFx.trans {T U V : TS} (h : TFx T U) (k : TFx U V) : TFx T V := ⟨k.nc.trans h.nc, k.nr.trans h.nr, k.cap.trans h.cap, fun x => k.held (h.held x)⟩
theorem trunc_held (T : TS) (r t : Int) : (T.trunc r t).held ≤ T.held := by
  unfold TS.held TS.trunc
  have h1 : cntM (cutM T.tm r (max t T.base)) ≤ cntM T.tm := cntM_le (fun a b h => by
    unfold cutM at h
    split at h
    · cases h
    · exact h)
  have h2 := cutS_len r.toNat (max t T.base).toNat T.sp
  simp only
  omega
theorem trunc_fx (T : TS) (r t : Int) : TFx T (T.trunc r t) := ⟨rfl, rfl, rfl, fun h => Nat.le_trans (trunc_held T r t) h⟩
theorem adv_fx (T : TS) (t : Int) : TFx T (T.adv t).2 := by
  unfold TS.adv
  split
  · exact TFx.rf _
  · split
    · exact TFx.rf _
    · refine ⟨rfl, rfl, rfl, fun h => Nat.le_trans ?_ h⟩
      unfold TS.held TS.advT
      have h1 : cntM (advM T.tm t.toNat) ≤ cntM T.tm := cntM_le (fun a b h => by
        unfold advM at h
        split at h
        · cases h
        · exact h)
      have h2 := advS_len t.toNat T.sp
      simp only
      omega
theorem stand_fx (T : TS) (r c t : Int) : TFx T (T.stand r c t).2 := by
  unfold TS.stand
  split
  · exact TFx.rf _
  · split
    · exact TFx.rf _
    · split
      · exact TFx.rf _
      · unfold TS.stand3
        split
        · exact TFx.rf _
        · split
          · exact TFx.rf _
          · rename_i h
            refine ⟨rfl, rfl, rfl, fun _ => ?_⟩
            unfold TS.held TS.sit at *
            simp at h ⊢
            omega
theorem reserve_fx (T : TS) (r c t : Int) : TFx T (T.reserve r c t).2 := by
  by_cases h : (T.reserve r c t).1 = 0
  · obtain ⟨-, -, -, h4, h5, -, -⟩ := res_ok h
    rw [h4]
    exact ⟨rfl, rfl, rfl, fun _ => h5⟩
  · rw [res_no h]; exact TFx.rf _
theorem pathGo_fx (T0 : TS) (r s : Int) : ∀ (l : List Int) (i : Nat) (T : TS), TFx T0 T → TFx T0 (T0.pathGo r s i l T).2.2
  | [], i, T, h => h
  | c :: l, i, T, h => by
    rw [TS.pathGo]
    split
    · exact TFx.rf _
    · exact pathGo_fx T0 r s l (i + 1) _ (h.trans (reserve_fx T r c (s + i)))
theorem path_fx (T : TS) (r s : Int) (l : List Int) : TFx T (T.path r s l).2.2 := pathGo_fx T r s l 0 T (TFx.rf T)
end Go.Proofs.Qxb6500716a
