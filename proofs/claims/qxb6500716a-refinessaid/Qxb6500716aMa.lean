/-
  The model: sound, blocked.
-/
import Derived.Test.Qxb6500716aUn
import Derived.Test.Qxb6500716aDa
import Derived.Test.Qxb6500716aPy
namespace Go.Proofs.Qxb6500716a
open Go.RowKit Go.Maps
set_option linter.unusedSimpArgs false
set_option linter.unusedVariables false
set_option maxRecDepth 20000
set_option maxHeartbeats 4000000
/-- The model in memory. -/
structure MoAt (w : World) (mb fb tb : Nat) : Prop where
  c0 : w.cell? ⟨mb, 0, none⟩ = some (.pointer (some ⟨fb, 0, none⟩))
  c1 : w.cell? ⟨mb, 1, none⟩ = some (.pointer (some ⟨tb, 0, none⟩))
  lt : mb < w.heap.size
theorem MoAt.below {w w' : World} {mb fb tb : Nat} (h : MoAt w mb fb tb) (hb : Below w.heap.size w w') : MoAt w' mb fb tb := ⟨(World.cell?_of_block (hb.block mb h.lt)).trans h.c0, (World.cell?_of_block (hb.block mb h.lt)).trans h.c1, Nat.lt_of_lt_of_le h.lt hb.size⟩
def gokL (F : FS) : List (Int × Int) → Bool
  | [] => true
  | p :: l => if F.valid p.1 = true ∧ 0 ≤ p.2 ∧ p.2 ≤ 64 then gokL F l else false
theorem gokL_iff (F : FS) : ∀ l : List (Int × Int), gokL F l = true ↔ ∀ p, p ∈ l → (0 ≤ p.1 ∧ p.1 < (F.n : Int)) ∧ 0 ≤ p.2 ∧ p.2 ≤ 64
  | [] => by simp [gokL]
  | p :: l => by
    rw [gokL]
    have ih := gokL_iff F l
    have hv := FS.valid_iff (F := F) (c := p.1)
    constructor
    · intro h
      split at h
      · rename_i e
        intro z hz
        rcases List.mem_cons.1 hz with rfl | hz
        · exact ⟨hv.1 e.1, e.2⟩
        · exact ih.1 h z hz
      · cases h
    · intro h
      have h1 := h p (by simp)
      rw [if_pos ⟨hv.2 h1.1, h1.2⟩]
      exact ih.2 (fun z hz => h z (by simp [hz]))
def gokS (F : FS) (gl : List (Int × Int)) : Bool := gokL F gl && decide (gl.length ≤ 16)
theorem gokS_iff (F : FS) (gl : List (Int × Int)) : gokS F gl = true ↔ F.gok gl := by
  unfold gokS FS.gok
  simp only [Bool.and_eq_true, decide_eq_true_eq, gokL_iff]
  exact And.comm
set_option maxHeartbeats 4000000 in
theorem sound_any (mb fb tb : Nat) (F : FS) (lab : Nat → Nat) (gv : Value) (gl : List (Int × Int)) (w : World) (hF : FAt w lab fb F) (hm : MoAt w mb fb tb) (hg : GAt w lab gv gl) :
    Calls Try.prog 56 #[.pointer (some ⟨mb, 0, none⟩), gv] w fun e w' => e = .returned (.bool (gokS F gl)) ∧ ∃ z, w' = w.ext z := by
  obtain ⟨go, gc, hgv, hgcc⟩ := hg.ex
  have HG := hid hg
  have HF := hid hF
  have HM := hid hm
  have hgl := hg.len
  obtain ⟨gn, hgn⟩ : ∃ y, gl.length = y := ⟨_, rfl⟩
  unfold gokS
  rw [hgn] at hgv hgl hgcc ⊢
  have HGN := hid hgn
  subst hgv
  obtain ⟨res, hres⟩ : ∃ y, gokL F gl = y := ⟨_, rfl⟩
  rw [hres]
  have HR := hid hres
  clear hg hF hm hgn hres
  go_enter Try.func56, Try.ntmps56
  go_wp2
  go_loopw [9] (fun v wr => ∃ k : Nat, v = .int .i64 (k) ∧ k ≤ gn ∧ gokL F (gl.drop k) = res ∧ Below w.heap.size w wr) (fun v _ => gn - (intOf v).toNat)
  case atStart => exact ⟨0, rfl, Nat.zero_le _, by simpa using HR.out, Below.rf _⟩
  case round =>
    obtain ⟨k, rfl, hk, heq, hB⟩ := hrel
    have HB := hid hB
    have hGB := HG.out.below hB
    have hMB := HM.out.below hB
    by_cases hkn : k < gn
    · have dk : decide ((k : Int) < (gn : Int)) = true := by simp; omega
      have dkn : decide (k < gn) = true := by simp; omega
      have hkl : k < gl.length := by rw [HGN.out]; exact hkn
      have hgx : gl[k]? = some gl[k] := List.getElem?_eq_getElem hkl
      rw [List.drop_eq_getElem_cons hkl, gokL] at heq
      generalize gl[k] = g at *
      obtain ⟨gc1, gd⟩ := g
      obtain ⟨gb, gn', gcap, hgv2, hgbl, -, y0, y1⟩ := hGB.row k _ hgx
      simp only [Value.slice.injEq] at hgv2
      obtain ⟨rfl, -, -⟩ := hgv2
      simp only at y0 y1 heq
      obtain ⟨vb, hvb⟩ : ∃ y, F.valid gc1 = y := ⟨_, rfl⟩
      rw [hvb] at heq
      have HVB := hid hvb
      have HEQ0 := hid heq
      clear hgx hGB hB heq hkl hvb
      go_wp2
      refine wp_nm fun w3 hw3 => ?_
      have hb3 : Below wr.heap.size wr w3 := by rw [hw3]; (repeat (first | with_reducible exact Below.rf _ | with_reducible exact World.below_ext _ _ | with_reducible refine Below.ex ?_ _ | with_reducible refine Below.al ?_ _ | with_reducible refine Below.setCell ?_ (by simp) _ | with_reducible refine Below.drew ?_))
      obtain ⟨tb1, htb⟩ : ∃ y, wr.heap.size = y := ⟨_, rfl⟩
      have t0 : w3.cell? ⟨wr.heap.size, 0, none⟩ = some (.int .i64 (gc1)) := by rw [hw3]; simp [go_sem, ↓IntWalk.iteOmega]
      have t1 : w3.cell? ⟨wr.heap.size, 1, none⟩ = some (.int .i64 (gd)) := by rw [hw3]; simp [go_sem, ↓IntWalk.iteOmega]
      have htl : wr.heap.size < w3.heap.size := by rw [hw3]; simp
      rw [htb] at t0 t1 htl ⊢
      have m0 := (hMB.below hb3).c0
      have hml := (hMB.below hb3).lt
      have HB3 : Hid (Below w.heap.size w w3) := HB.out.trans (hb3.mono HB.out.size)
      have VA : Hid (∀ w' : World, Below w3.heap.size w3 w' → Calls Try.prog 53 #[.pointer (some ⟨fb, 0, none⟩), .int .i64 (gc1)] w' fun e w'' => e = .returned (.bool vb) ∧ w'' = w') := fun w' h => by
        have := valid_any fb F lab gc1 w' (HF.out.below (HB3.out.trans (h.mono HB3.out.size)))
        rw [HVB.out] at this
        exact this
      clear hw3 hb3 hMB y0 y1 hgbl HVB HB htb
      have HB := HB3
      cases vb with
      | false =>
        have HEQ : Hid (false = res) := by
          have := HEQ0.out
          rw [if_neg (fun e => by cases e.1)] at this
          exact this
        clear HEQ0
        go_wp2
        first | with_reducible refine wp_region_ext2 (by kernel_rfl) (by kernel_rfl) ?_ | refine wp_region_ext (by kernel_rfl) (by kernel_rfl) ?_
        repeat (go_big_quiet_step ((go_at_call 53; exact Calls.ext_of_same (VA.out _ (by (repeat (first | with_reducible exact Below.rf _ | with_reducible exact World.below_ext _ _ | with_reducible refine Below.ex ?_ _ | with_reducible refine Below.al ?_ _ | with_reducible refine Below.setCell ?_ (by simp) _ | with_reducible refine Below.drew ?_)))))))
        refine wpQuiet_nil ?_
        rintro _ ⟨z, rfl⟩
        go_wp2
        go_ret
        exact ⟨by rw [← HEQ.out]; rfl, (HB.out.trans (Below.mono (by (repeat (first | with_reducible exact Below.rf _ | with_reducible exact World.below_ext _ _ | with_reducible refine Below.ex ?_ _ | with_reducible refine Below.al ?_ _ | with_reducible refine Below.setCell ?_ (by simp) _ | with_reducible refine Below.drew ?_))) HB.out.size)).is_ext⟩
      | true =>
        by_cases h0 : gd < 0
        · have d0 : decide (gd < 0) = true := by simp [h0]
          have HEQ : Hid (false = res) := by
            have := HEQ0.out
            rw [if_neg (fun e => by omega)] at this
            exact this
          clear HEQ0
          go_wp2
          first | with_reducible refine wp_region_ext2 (by kernel_rfl) (by kernel_rfl) ?_ | refine wp_region_ext (by kernel_rfl) (by kernel_rfl) ?_
          repeat (go_big_quiet_step ((go_at_call 53; exact Calls.ext_of_same (VA.out _ (by (repeat (first | with_reducible exact Below.rf _ | with_reducible exact World.below_ext _ _ | with_reducible refine Below.ex ?_ _ | with_reducible refine Below.al ?_ _ | with_reducible refine Below.setCell ?_ (by simp) _ | with_reducible refine Below.drew ?_)))))))
          refine wpQuiet_nil ?_
          rintro _ ⟨z, rfl⟩
          go_wp2
          go_ret
          exact ⟨by rw [← HEQ.out]; rfl, (HB.out.trans (Below.mono (by (repeat (first | with_reducible exact Below.rf _ | with_reducible exact World.below_ext _ _ | with_reducible refine Below.ex ?_ _ | with_reducible refine Below.al ?_ _ | with_reducible refine Below.setCell ?_ (by simp) _ | with_reducible refine Below.drew ?_))) HB.out.size)).is_ext⟩
        · have d0 : decide (gd < 0) = false := by simp; omega
          by_cases h1 : 64 < gd
          · have d1 : decide (64 < gd) = true := by simp [h1]
            have HEQ : Hid (false = res) := by
              have := HEQ0.out
              rw [if_neg (fun e => by omega)] at this
              exact this
            clear HEQ0
            go_wp2
            first | with_reducible refine wp_region_ext2 (by kernel_rfl) (by kernel_rfl) ?_ | refine wp_region_ext (by kernel_rfl) (by kernel_rfl) ?_
            repeat (go_big_quiet_step ((go_at_call 53; exact Calls.ext_of_same (VA.out _ (by (repeat (first | with_reducible exact Below.rf _ | with_reducible exact World.below_ext _ _ | with_reducible refine Below.ex ?_ _ | with_reducible refine Below.al ?_ _ | with_reducible refine Below.setCell ?_ (by simp) _ | with_reducible refine Below.drew ?_)))))))
            refine wpQuiet_nil ?_
            rintro _ ⟨z, rfl⟩
            go_wp2
            go_ret
            exact ⟨by rw [← HEQ.out]; rfl, (HB.out.trans (Below.mono (by (repeat (first | with_reducible exact Below.rf _ | with_reducible exact World.below_ext _ _ | with_reducible refine Below.ex ?_ _ | with_reducible refine Below.al ?_ _ | with_reducible refine Below.setCell ?_ (by simp) _ | with_reducible refine Below.drew ?_))) HB.out.size)).is_ext⟩
          · have d1 : decide (64 < gd) = false := by simp; omega
            have HEQ : Hid (gokL F (gl.drop (k + 1)) = res) := by
              have := HEQ0.out
              rw [if_pos ⟨rfl, by omega, by omega⟩] at this
              exact this
            clear HEQ0
            go_wp2
            first | with_reducible refine wp_region_ext2 (by kernel_rfl) (by kernel_rfl) ?_ | refine wp_region_ext (by kernel_rfl) (by kernel_rfl) ?_
            repeat (go_big_quiet_step ((go_at_call 53; exact Calls.ext_of_same (VA.out _ (by (repeat (first | with_reducible exact Below.rf _ | with_reducible exact World.below_ext _ _ | with_reducible refine Below.ex ?_ _ | with_reducible refine Below.al ?_ _ | with_reducible refine Below.setCell ?_ (by simp) _ | with_reducible refine Below.drew ?_)))))))
            refine wpQuiet_nil ?_
            rintro _ ⟨z, rfl⟩
            go_wp2
            go_roundw
            case rel => exact ⟨k + 1, by go_num, by omega, HEQ.out, HB.out.trans (Below.mono (by (repeat (first | with_reducible exact Below.rf _ | with_reducible exact World.below_ext _ _ | with_reducible refine Below.ex ?_ _ | with_reducible refine Below.al ?_ _ | with_reducible refine Below.setCell ?_ (by simp) _ | with_reducible refine Below.drew ?_))) HB.out.size)⟩
            case measure => (simp [intOf] <;> omega)
    · have dk : decide ((k : Int) < (gn : Int)) = false := by simp; omega
      have dkn : decide (k < gn) = false := by simp; omega
      rw [List.drop_eq_nil_of_le (by rw [HGN.out]; omega), gokL] at heq
      have HEQ := hid heq
      clear heq hB hGB hMB
      go_wp2
      go_ret
      exact ⟨by rw [← HEQ.out]; simp; omega, HB.out.is_ext⟩
end Go.Proofs.Qxb6500716a
