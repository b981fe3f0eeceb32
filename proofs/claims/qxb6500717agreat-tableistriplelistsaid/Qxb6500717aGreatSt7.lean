/-
  The model's Step: held; no table; no such step; a new table.
-/
import Derived.Test.Qxb6500717aGreatSt3
namespace Go.Proofs.Qxb6500717aGreat
open Go.RowKit
set_option linter.unusedSimpArgs false
set_option linter.unusedVariables false
set_option maxRecDepth 20000
set_option maxHeartbeats 4000000

theorem st_held (A B C D : Int) (ao : Option Addr) (n cap : Nat) (lab : Nat → Nat) (m k : Nat) (M : ModS) (w : World) (h : ModX w lab m k M) (hh : M.S.has = true) : Calls Tryz.prog 8 #[.pointer (some ⟨m, 0, none⟩), .agg #[.int .i64 (12), .int .i64 (A), .int .i64 (B), .int .i64 (C), .int .i64 (D), .slice ao n cap]] w (stPost lab m k (((0, [(M.S.tr.length : Int) + M.S.sp.length, M.S.cap, M.S.base]), M)) w) := by
  have HH := hid h
  obtain ⟨V, hO, h8, h9, h7, h10⟩ := h.opens
  have HO := hid hO
  have H8 := hid h8
  have H9 := hid h9
  have H7 := hid h7
  have H10 := hid h10
  have c0 := (hO w (Below.rf _)).rd.c0
  rw [hh] at c0
  have lt := (hO w (Below.rf _)).rd.lt
  clear h hO h8 h9 h7 h10 hh
  have c3 := (HO.out w (Below.rf _)).rd.c3
  have c4 := (HO.out w (Below.rf _)).rd.c4
  have HE := hid (fun w1 (hB : Below w.heap.size w w1) => mheld_any m M.S w1 (HO.out w1 hB).rd)
  generalize (M.S.tr.length : Int) + M.S.sp.length = hd at *
  go_enter Tryz.func8, Tryz.ntmps8
  go_wp2
  first | with_reducible refine wp_region_ext2 (by kernel_rfl) (by kernel_rfl) ?_ | refine wp_region_ext (by kernel_rfl) (by kernel_rfl) ?_
  repeat (go_big_quiet_step (fail))
  refine wpQuiet_nil ?_
  rintro _ ⟨z, rfl⟩
  go_wp2
  first | with_reducible refine wp_region_tail_ext2 10 (by kernel_rfl) (by kernel_rfl) ?_ | refine wp_region_tail_ext 10 (by kernel_rfl) (by kernel_rfl) ?_
  simp only [List.take_succ_cons, List.take_zero, List.drop_succ_cons, List.drop_zero]
  repeat (go_big_quiet_step ((go_at_call 58; exact Calls.ext_of (HE.out _ (by (repeat (first | with_reducible exact Below.rf _ | with_reducible exact World.below_ext _ _ | with_reducible refine Below.ex ?_ _ | with_reducible refine Below.al ?_ _ | with_reducible refine Below.setCell ?_ (by simp) _ | with_reducible refine Below.drew ?_)))))))
  refine wpQuiet_nil ?_
  rintro _ ⟨z, rfl⟩
  go_wp2_with (go_at_call 43; refine (mok_any _ ⟨_, _, _, rfl⟩ _).mono ?_; rintro e w' ⟨rfl, z9, rfl⟩)
  refine bodyPost_ret (v := .agg #[.int .u8 0, .slice (some ⟨w.heap.size + 1 + 1 + z.heap.size, 0, none⟩) 3 3]) (by simp [results, Tryz.results8, go_sem, ↓IntWalk.iteOmega, *]) rfl ?_
  exact st_fin HH.out H8.out H9.out H7.out H10.out (by (repeat (first | with_reducible exact Below.rf _ | with_reducible exact World.below_ext _ _ | with_reducible refine Below.ex ?_ _ | with_reducible refine Below.al ?_ _ | with_reducible refine Below.setCell ?_ (by simp) _ | with_reducible refine Below.drew ?_))) (by simp <;> omega) (HO.out _ (by (repeat (first | with_reducible exact Below.rf _ | with_reducible exact World.below_ext _ _ | with_reducible refine Below.ex ?_ _ | with_reducible refine Below.al ?_ _ | with_reducible refine Below.setCell ?_ (by simp) _ | with_reducible refine Below.drew ?_)))) (KeptBut.refl _ _) (KeptBut.refl _ _) HH.out.ft (IntsAt.three (by omega) (by simp <;> omega) (by simp [go_sem, ↓IntWalk.iteOmega]) (by simp [go_sem, ↓IntWalk.iteOmega]) (by simp [go_sem, ↓IntWalk.iteOmega]))
theorem st_else (K A B C D : Int) (ao : Option Addr) (n cap : Nat) (lab : Nat → Nat) (m k : Nat) (M : ModS) (w : World) (h : ModX w lab m k M) (hh : M.S.has = true) (hK : K < 0 ∨ 23 < K) : Calls Tryz.prog 8 #[.pointer (some ⟨m, 0, none⟩), .agg #[.int .i64 (K), .int .i64 (A), .int .i64 (B), .int .i64 (C), .int .i64 (D), .slice ao n cap]] w (stPost lab m k ((2, []), M) w) := by
  have k0 : (K == 0) = false := by simp; omega
  have k1 : (K == 1) = false := by simp; omega
  have k2 : (K == 2) = false := by simp; omega
  have k3 : (K == 3) = false := by simp; omega
  have k4 : (K == 4) = false := by simp; omega
  have k5 : (K == 5) = false := by simp; omega
  have k6 : (K == 6) = false := by simp; omega
  have k7 : (K == 7) = false := by simp; omega
  have k8 : (K == 8) = false := by simp; omega
  have k9 : (K == 9) = false := by simp; omega
  have k10 : (K == 10) = false := by simp; omega
  have k11 : (K == 11) = false := by simp; omega
  have k12 : (K == 12) = false := by simp; omega
  have k13 : (K == 13) = false := by simp; omega
  have k14 : (K == 14) = false := by simp; omega
  have k15 : (K == 15) = false := by simp; omega
  have k16 : (K == 16) = false := by simp; omega
  have k17 : (K == 17) = false := by simp; omega
  have k18 : (K == 18) = false := by simp; omega
  have k19 : (K == 19) = false := by simp; omega
  have k20 : (K == 20) = false := by simp; omega
  have k21 : (K == 21) = false := by simp; omega
  have k22 : (K == 22) = false := by simp; omega
  have k23 : (K == 23) = false := by simp; omega
  clear hK
  have HH := hid h
  obtain ⟨V, hO, h8, h9, h7, h10⟩ := h.opens
  have HO := hid hO
  have H8 := hid h8
  have H9 := hid h9
  have H7 := hid h7
  have H10 := hid h10
  have c0 := (hO w (Below.rf _)).rd.c0
  rw [hh] at c0
  have lt := (hO w (Below.rf _)).rd.lt
  clear h hO h8 h9 h7 h10 hh
  go_enter Tryz.func8, Tryz.ntmps8
  go_wp2
  first | with_reducible refine wp_region_ext2 (by kernel_rfl) (by kernel_rfl) ?_ | refine wp_region_ext (by kernel_rfl) (by kernel_rfl) ?_
  repeat (go_big_quiet_step (fail))
  refine wpQuiet_nil ?_
  rintro _ ⟨z, rfl⟩
  go_wp2
  refine bodyPost_ret (v := .agg #[.int .u8 2, .slice none 0 0]) (by simp [results, Tryz.results8, go_sem, ↓IntWalk.iteOmega, *]) rfl ?_
  exact st_fin HH.out H8.out H9.out H7.out H10.out (by (repeat (first | with_reducible exact Below.rf _ | with_reducible exact World.below_ext _ _ | with_reducible refine Below.ex ?_ _ | with_reducible refine Below.al ?_ _ | with_reducible refine Below.setCell ?_ (by simp) _ | with_reducible refine Below.drew ?_))) (by simp <;> omega) (HO.out _ (by (repeat (first | with_reducible exact Below.rf _ | with_reducible exact World.below_ext _ _ | with_reducible refine Below.ex ?_ _ | with_reducible refine Below.al ?_ _ | with_reducible refine Below.setCell ?_ (by simp) _ | with_reducible refine Below.drew ?_)))) (KeptBut.refl _ _) (KeptBut.refl _ _) HH.out.ft (IntsAt.nil _ _)
theorem st_none (K A B C D : Int) (ao : Option Addr) (n cap : Nat) (lab : Nat → Nat) (m k : Nat) (M : ModS) (w : World) (h : ModX w lab m k M) (hh : M.S.has = false) (hK : K ≠ 0 ∧ ¬ (14 ≤ K ∧ K ≤ 23)) : Calls Tryz.prog 8 #[.pointer (some ⟨m, 0, none⟩), .agg #[.int .i64 (K), .int .i64 (A), .int .i64 (B), .int .i64 (C), .int .i64 (D), .slice ao n cap]] w (stPost lab m k ((1, []), M) w) := by
  have k0 : (K == 0) = false := by simp; omega
  have k14 : (K == 14) = false := by simp; omega
  have k15 : (K == 15) = false := by simp; omega
  have k16 : (K == 16) = false := by simp; omega
  have k17 : (K == 17) = false := by simp; omega
  have k18 : (K == 18) = false := by simp; omega
  have k19 : (K == 19) = false := by simp; omega
  have k20 : (K == 20) = false := by simp; omega
  have k21 : (K == 21) = false := by simp; omega
  have k22 : (K == 22) = false := by simp; omega
  have k23 : (K == 23) = false := by simp; omega
  clear hK
  have HH := hid h
  obtain ⟨V, hO, h8, h9, h7, h10⟩ := h.opens
  have HO := hid hO
  have H8 := hid h8
  have H9 := hid h9
  have H7 := hid h7
  have H10 := hid h10
  have c0 := (hO w (Below.rf _)).rd.c0
  rw [hh] at c0
  have lt := (hO w (Below.rf _)).rd.lt
  clear h hO h8 h9 h7 h10 hh
  go_enter Tryz.func8, Tryz.ntmps8
  go_wp2
  refine bodyPost_ret (v := .agg #[.int .u8 1, .slice none 0 0]) (by simp [results, Tryz.results8, go_sem, ↓IntWalk.iteOmega, *]) rfl ?_
  exact st_fin HH.out H8.out H9.out H7.out H10.out (by (repeat (first | with_reducible exact Below.rf _ | with_reducible exact World.below_ext _ _ | with_reducible refine Below.ex ?_ _ | with_reducible refine Below.al ?_ _ | with_reducible refine Below.setCell ?_ (by simp) _ | with_reducible refine Below.drew ?_))) (by simp <;> omega) (HO.out _ (by (repeat (first | with_reducible exact Below.rf _ | with_reducible exact World.below_ext _ _ | with_reducible refine Below.ex ?_ _ | with_reducible refine Below.al ?_ _ | with_reducible refine Below.setCell ?_ (by simp) _ | with_reducible refine Below.drew ?_)))) (KeptBut.refl _ _) (KeptBut.refl _ _) HH.out.ft (IntsAt.nil _ _)
end Go.Proofs.Qxb6500717aGreat
