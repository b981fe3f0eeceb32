/-
  Solve: a request that does not stand.
-/
import Derived.Test.Qxb6500716aMb
namespace Go.Proofs.Qxb6500716a
open Go.RowKit Go.Maps
set_option linter.unusedSimpArgs false
set_option linter.unusedVariables false
set_option maxRecDepth 20000
set_option maxHeartbeats 4000000
set_option maxHeartbeats 4000000 in
theorem solve_bad (mb fb : Nat) (M : TM) (F : FS) (T : TS) (lab : Nat → Nat) (q : Rq) (gv : Value) (w : World) (hF : FAt w lab fb F) (hT : TAt w lab M T) (hm : MoAt w mb fb M.t) (hg : GAt w lab gv q.gl) (h0 : rcode F T q ≠ 0) :
    Calls Try.prog 34 #[.pointer (some ⟨mb, 0, none⟩), .agg #[.int .i64 ((q).r), .int .i64 ((q).s), .int .i64 ((q).t), gv, .int .i64 ((q).h), .int .i64 ((q).m)]] w fun e w' => e = .returned (.tuple #[.int .u8 2, .int .i64 (0)]) ∧ ∃ z, w' = w.ext z := by
  have RB : Hid (∀ w' : World, Below w.heap.size w w' → Calls Try.prog 23 #[.pointer (some ⟨fb, 0, none⟩)] w' fun e w'' => e = .returned (.int .i64 (F.bays.length)) ∧ w'' = w') := fun w' h => robots_any fb F lab w' (hF.below h)
  have VA : Hid (∀ w' : World, Below w.heap.size w w' → Calls Try.prog 53 #[.pointer (some ⟨fb, 0, none⟩), .int .i64 (q.s)] w' fun e w'' => e = .returned (.bool (F.valid q.s)) ∧ w'' = w') := fun w' h => valid_any fb F lab q.s w' (hF.below h)
  have SD : Hid (∀ w' : World, Below w.heap.size w w' → Calls Try.prog 56 #[.pointer (some ⟨mb, 0, none⟩), gv] w' fun e w'' => e = .returned (.bool (gokS F q.gl)) ∧ ∃ z, w'' = w'.ext z) := fun w' h => sound_any mb fb M.t F lab gv q.gl w' (hF.below h) (hm.below h) (hg.below h)
  have BS : Hid (∀ w' : World, Below w.heap.size w w' → Calls Try.prog 44 #[.pointer (some ⟨M.t, 0, none⟩)] w' fun e w'' => e = .returned (.int .i64 (T.base)) ∧ w'' = w') := fun w' h => base_any M T lab w' (hT.below h)
  have EN : Hid (∀ w' : World, Below w.heap.size w w' → Calls Try.prog 25 #[.pointer (some ⟨M.t, 0, none⟩)] w' fun e w'' => e = .returned (.int .i64 ((T.base : Int) + 256)) ∧ w'' = w') := fun w' h => end_any M T lab w' (hT.below h)
  have m0 := hm.c0
  have m1 := hm.c1
  have hml := hm.lt
  have hbb := hT.bd.base
  have hnb6 := hF.ok.nb
  have hg0 : ¬ q.r < 0 → ¬ (F.bays.length : Int) ≤ q.r → F.valid q.s = true → gokS F q.gl = true → ¬ q.t < (T.base : Int) → ¬ (T.base : Int) + 256 ≤ q.t → ¬ q.h < 0 → ¬ 255 < q.h → ¬ q.m < 1 → ¬ 1048576 < q.m → False := fun a1 a2 a3 a4 a5 a6 a7 a8 a9 a10 => h0 (by
    unfold rcode
    rw [if_pos ⟨⟨by omega, by omega⟩, a3, ⟨by omega, by omega⟩, ⟨by omega, by omega⟩, ⟨by omega, by omega⟩⟩]
    exact gcode_ok.2 ((gokS_iff F q.gl).1 a4))
  have HG := hid hg0
  obtain ⟨go, gc, hgv, -⟩ := hg.ex
  obtain ⟨K, hK⟩ : ∃ y, q.gl.length = y := ⟨_, rfl⟩
  rw [hK] at hgv
  subst hgv
  obtain ⟨nb, hnb⟩ : ∃ y, F.bays.length = y := ⟨_, rfl⟩
  rw [hnb] at RB HG hnb6
  obtain ⟨vb, hvb⟩ : ∃ y, F.valid q.s = y := ⟨_, rfl⟩
  obtain ⟨gb, hgb⟩ : ∃ y, gokS F q.gl = y := ⟨_, rfl⟩
  rw [hvb] at VA HG
  rw [hgb] at SD HG
  obtain ⟨bs, hbs⟩ : ∃ y, T.base = y := ⟨_, rfl⟩
  rw [hbs] at BS EN HG hbb
  clear hF hT hm hg h0 hg0 hK hnb hvb hgb hbs
  by_cases a1 : q.r < 0
  · have e1 : decide (q.r < 0) = true := by simp [a1]
    clear HG
    go_enter Try.func34, Try.ntmps34
    go_wp2
    (try dsimp only [List.append])
    first | with_reducible refine wp_region_ext2 (by kernel_rfl) (by kernel_rfl) ?_ | refine wp_region_ext (by kernel_rfl) (by kernel_rfl) ?_
    repeat (go_big_quiet_step ((first | (go_at_call 23; exact Calls.ext_of_same (RB.out _ (by (repeat (first | with_reducible exact Below.rf _ | with_reducible exact World.below_ext _ _ | with_reducible refine Below.ex ?_ _ | with_reducible refine Below.al ?_ _ | with_reducible refine Below.setCell ?_ (by simp) _ | with_reducible refine Below.drew ?_))))) | (go_at_call 53; exact Calls.ext_of_same (VA.out _ (by (repeat (first | with_reducible exact Below.rf _ | with_reducible exact World.below_ext _ _ | with_reducible refine Below.ex ?_ _ | with_reducible refine Below.al ?_ _ | with_reducible refine Below.setCell ?_ (by simp) _ | with_reducible refine Below.drew ?_))))) | (go_at_call 56; exact Calls.ext_of (SD.out _ (by (repeat (first | with_reducible exact Below.rf _ | with_reducible exact World.below_ext _ _ | with_reducible refine Below.ex ?_ _ | with_reducible refine Below.al ?_ _ | with_reducible refine Below.setCell ?_ (by simp) _ | with_reducible refine Below.drew ?_))))) | (go_at_call 44; exact Calls.ext_of_same (BS.out _ (by (repeat (first | with_reducible exact Below.rf _ | with_reducible exact World.below_ext _ _ | with_reducible refine Below.ex ?_ _ | with_reducible refine Below.al ?_ _ | with_reducible refine Below.setCell ?_ (by simp) _ | with_reducible refine Below.drew ?_))))) | (go_at_call 25; exact Calls.ext_of_same (EN.out _ (by (repeat (first | with_reducible exact Below.rf _ | with_reducible exact World.below_ext _ _ | with_reducible refine Below.ex ?_ _ | with_reducible refine Below.al ?_ _ | with_reducible refine Below.setCell ?_ (by simp) _ | with_reducible refine Below.drew ?_))))))))
    refine wpQuiet_nil ?_
    rintro _ ⟨z, rfl⟩
    go_wp2
    go_ret2
    exact ⟨rfl, Below.is_ext (by (repeat (first | with_reducible exact Below.rf _ | with_reducible exact World.below_ext _ _ | with_reducible refine Below.ex ?_ _ | with_reducible refine Below.al ?_ _ | with_reducible refine Below.setCell ?_ (by simp) _ | with_reducible refine Below.drew ?_)))⟩
  have e1 : decide (q.r < 0) = false := by simp; omega
  by_cases a2 : (nb : Int) ≤ q.r
  · have e2 : decide ((nb : Int) ≤ q.r) = true := by simp [a2]
    clear HG
    go_enter Try.func34, Try.ntmps34
    go_wp2
    (try dsimp only [List.append])
    first | with_reducible refine wp_region_ext2 (by kernel_rfl) (by kernel_rfl) ?_ | refine wp_region_ext (by kernel_rfl) (by kernel_rfl) ?_
    repeat (go_big_quiet_step ((first | (go_at_call 23; exact Calls.ext_of_same (RB.out _ (by (repeat (first | with_reducible exact Below.rf _ | with_reducible exact World.below_ext _ _ | with_reducible refine Below.ex ?_ _ | with_reducible refine Below.al ?_ _ | with_reducible refine Below.setCell ?_ (by simp) _ | with_reducible refine Below.drew ?_))))) | (go_at_call 53; exact Calls.ext_of_same (VA.out _ (by (repeat (first | with_reducible exact Below.rf _ | with_reducible exact World.below_ext _ _ | with_reducible refine Below.ex ?_ _ | with_reducible refine Below.al ?_ _ | with_reducible refine Below.setCell ?_ (by simp) _ | with_reducible refine Below.drew ?_))))) | (go_at_call 56; exact Calls.ext_of (SD.out _ (by (repeat (first | with_reducible exact Below.rf _ | with_reducible exact World.below_ext _ _ | with_reducible refine Below.ex ?_ _ | with_reducible refine Below.al ?_ _ | with_reducible refine Below.setCell ?_ (by simp) _ | with_reducible refine Below.drew ?_))))) | (go_at_call 44; exact Calls.ext_of_same (BS.out _ (by (repeat (first | with_reducible exact Below.rf _ | with_reducible exact World.below_ext _ _ | with_reducible refine Below.ex ?_ _ | with_reducible refine Below.al ?_ _ | with_reducible refine Below.setCell ?_ (by simp) _ | with_reducible refine Below.drew ?_))))) | (go_at_call 25; exact Calls.ext_of_same (EN.out _ (by (repeat (first | with_reducible exact Below.rf _ | with_reducible exact World.below_ext _ _ | with_reducible refine Below.ex ?_ _ | with_reducible refine Below.al ?_ _ | with_reducible refine Below.setCell ?_ (by simp) _ | with_reducible refine Below.drew ?_))))))))
    refine wpQuiet_nil ?_
    rintro _ ⟨z, rfl⟩
    go_wp2
    go_ret2
    exact ⟨rfl, Below.is_ext (by (repeat (first | with_reducible exact Below.rf _ | with_reducible exact World.below_ext _ _ | with_reducible refine Below.ex ?_ _ | with_reducible refine Below.al ?_ _ | with_reducible refine Below.setCell ?_ (by simp) _ | with_reducible refine Below.drew ?_)))⟩
  have e2 : decide ((nb : Int) ≤ q.r) = false := by simp; omega
  cases vb with
  | false =>
    clear HG
    go_enter Try.func34, Try.ntmps34
    go_wp2
    (try dsimp only [List.append])
    first | with_reducible refine wp_region_ext2 (by kernel_rfl) (by kernel_rfl) ?_ | refine wp_region_ext (by kernel_rfl) (by kernel_rfl) ?_
    repeat (go_big_quiet_step ((first | (go_at_call 23; exact Calls.ext_of_same (RB.out _ (by (repeat (first | with_reducible exact Below.rf _ | with_reducible exact World.below_ext _ _ | with_reducible refine Below.ex ?_ _ | with_reducible refine Below.al ?_ _ | with_reducible refine Below.setCell ?_ (by simp) _ | with_reducible refine Below.drew ?_))))) | (go_at_call 53; exact Calls.ext_of_same (VA.out _ (by (repeat (first | with_reducible exact Below.rf _ | with_reducible exact World.below_ext _ _ | with_reducible refine Below.ex ?_ _ | with_reducible refine Below.al ?_ _ | with_reducible refine Below.setCell ?_ (by simp) _ | with_reducible refine Below.drew ?_))))) | (go_at_call 56; exact Calls.ext_of (SD.out _ (by (repeat (first | with_reducible exact Below.rf _ | with_reducible exact World.below_ext _ _ | with_reducible refine Below.ex ?_ _ | with_reducible refine Below.al ?_ _ | with_reducible refine Below.setCell ?_ (by simp) _ | with_reducible refine Below.drew ?_))))) | (go_at_call 44; exact Calls.ext_of_same (BS.out _ (by (repeat (first | with_reducible exact Below.rf _ | with_reducible exact World.below_ext _ _ | with_reducible refine Below.ex ?_ _ | with_reducible refine Below.al ?_ _ | with_reducible refine Below.setCell ?_ (by simp) _ | with_reducible refine Below.drew ?_))))) | (go_at_call 25; exact Calls.ext_of_same (EN.out _ (by (repeat (first | with_reducible exact Below.rf _ | with_reducible exact World.below_ext _ _ | with_reducible refine Below.ex ?_ _ | with_reducible refine Below.al ?_ _ | with_reducible refine Below.setCell ?_ (by simp) _ | with_reducible refine Below.drew ?_))))))))
    refine wpQuiet_nil ?_
    rintro _ ⟨z, rfl⟩
    go_wp2
    go_ret2
    exact ⟨rfl, Below.is_ext (by (repeat (first | with_reducible exact Below.rf _ | with_reducible exact World.below_ext _ _ | with_reducible refine Below.ex ?_ _ | with_reducible refine Below.al ?_ _ | with_reducible refine Below.setCell ?_ (by simp) _ | with_reducible refine Below.drew ?_)))⟩
  | true =>
  cases gb with
  | false =>
    clear HG
    go_enter Try.func34, Try.ntmps34
    go_wp2
    (try dsimp only [List.append])
    first | with_reducible refine wp_region_ext2 (by kernel_rfl) (by kernel_rfl) ?_ | refine wp_region_ext (by kernel_rfl) (by kernel_rfl) ?_
    repeat (go_big_quiet_step ((first | (go_at_call 23; exact Calls.ext_of_same (RB.out _ (by (repeat (first | with_reducible exact Below.rf _ | with_reducible exact World.below_ext _ _ | with_reducible refine Below.ex ?_ _ | with_reducible refine Below.al ?_ _ | with_reducible refine Below.setCell ?_ (by simp) _ | with_reducible refine Below.drew ?_))))) | (go_at_call 53; exact Calls.ext_of_same (VA.out _ (by (repeat (first | with_reducible exact Below.rf _ | with_reducible exact World.below_ext _ _ | with_reducible refine Below.ex ?_ _ | with_reducible refine Below.al ?_ _ | with_reducible refine Below.setCell ?_ (by simp) _ | with_reducible refine Below.drew ?_))))) | (go_at_call 56; exact Calls.ext_of (SD.out _ (by (repeat (first | with_reducible exact Below.rf _ | with_reducible exact World.below_ext _ _ | with_reducible refine Below.ex ?_ _ | with_reducible refine Below.al ?_ _ | with_reducible refine Below.setCell ?_ (by simp) _ | with_reducible refine Below.drew ?_))))) | (go_at_call 44; exact Calls.ext_of_same (BS.out _ (by (repeat (first | with_reducible exact Below.rf _ | with_reducible exact World.below_ext _ _ | with_reducible refine Below.ex ?_ _ | with_reducible refine Below.al ?_ _ | with_reducible refine Below.setCell ?_ (by simp) _ | with_reducible refine Below.drew ?_))))) | (go_at_call 25; exact Calls.ext_of_same (EN.out _ (by (repeat (first | with_reducible exact Below.rf _ | with_reducible exact World.below_ext _ _ | with_reducible refine Below.ex ?_ _ | with_reducible refine Below.al ?_ _ | with_reducible refine Below.setCell ?_ (by simp) _ | with_reducible refine Below.drew ?_))))))))
    refine wpQuiet_nil ?_
    rintro _ ⟨z, rfl⟩
    go_wp2
    go_ret2
    exact ⟨rfl, Below.is_ext (by (repeat (first | with_reducible exact Below.rf _ | with_reducible exact World.below_ext _ _ | with_reducible refine Below.ex ?_ _ | with_reducible refine Below.al ?_ _ | with_reducible refine Below.setCell ?_ (by simp) _ | with_reducible refine Below.drew ?_)))⟩
  | true =>
  by_cases a5 : q.t < (bs : Int)
  · have e5 : decide (q.t < (bs : Int)) = true := by simp [a5]
    clear HG
    go_enter Try.func34, Try.ntmps34
    go_wp2
    (try dsimp only [List.append])
    first | with_reducible refine wp_region_ext2 (by kernel_rfl) (by kernel_rfl) ?_ | refine wp_region_ext (by kernel_rfl) (by kernel_rfl) ?_
    repeat (go_big_quiet_step ((first | (go_at_call 23; exact Calls.ext_of_same (RB.out _ (by (repeat (first | with_reducible exact Below.rf _ | with_reducible exact World.below_ext _ _ | with_reducible refine Below.ex ?_ _ | with_reducible refine Below.al ?_ _ | with_reducible refine Below.setCell ?_ (by simp) _ | with_reducible refine Below.drew ?_))))) | (go_at_call 53; exact Calls.ext_of_same (VA.out _ (by (repeat (first | with_reducible exact Below.rf _ | with_reducible exact World.below_ext _ _ | with_reducible refine Below.ex ?_ _ | with_reducible refine Below.al ?_ _ | with_reducible refine Below.setCell ?_ (by simp) _ | with_reducible refine Below.drew ?_))))) | (go_at_call 56; exact Calls.ext_of (SD.out _ (by (repeat (first | with_reducible exact Below.rf _ | with_reducible exact World.below_ext _ _ | with_reducible refine Below.ex ?_ _ | with_reducible refine Below.al ?_ _ | with_reducible refine Below.setCell ?_ (by simp) _ | with_reducible refine Below.drew ?_))))) | (go_at_call 44; exact Calls.ext_of_same (BS.out _ (by (repeat (first | with_reducible exact Below.rf _ | with_reducible exact World.below_ext _ _ | with_reducible refine Below.ex ?_ _ | with_reducible refine Below.al ?_ _ | with_reducible refine Below.setCell ?_ (by simp) _ | with_reducible refine Below.drew ?_))))) | (go_at_call 25; exact Calls.ext_of_same (EN.out _ (by (repeat (first | with_reducible exact Below.rf _ | with_reducible exact World.below_ext _ _ | with_reducible refine Below.ex ?_ _ | with_reducible refine Below.al ?_ _ | with_reducible refine Below.setCell ?_ (by simp) _ | with_reducible refine Below.drew ?_))))))))
    refine wpQuiet_nil ?_
    rintro _ ⟨z, rfl⟩
    go_wp2
    go_ret2
    exact ⟨rfl, Below.is_ext (by (repeat (first | with_reducible exact Below.rf _ | with_reducible exact World.below_ext _ _ | with_reducible refine Below.ex ?_ _ | with_reducible refine Below.al ?_ _ | with_reducible refine Below.setCell ?_ (by simp) _ | with_reducible refine Below.drew ?_)))⟩
  have e5 : decide (q.t < (bs : Int)) = false := by simp; omega
  by_cases a6 : (bs : Int) + 256 ≤ q.t
  · have e6 : decide ((bs : Int) + 256 ≤ q.t) = true := by simp [a6]
    clear HG
    go_enter Try.func34, Try.ntmps34
    go_wp2
    (try dsimp only [List.append])
    first | with_reducible refine wp_region_ext2 (by kernel_rfl) (by kernel_rfl) ?_ | refine wp_region_ext (by kernel_rfl) (by kernel_rfl) ?_
    repeat (go_big_quiet_step ((first | (go_at_call 23; exact Calls.ext_of_same (RB.out _ (by (repeat (first | with_reducible exact Below.rf _ | with_reducible exact World.below_ext _ _ | with_reducible refine Below.ex ?_ _ | with_reducible refine Below.al ?_ _ | with_reducible refine Below.setCell ?_ (by simp) _ | with_reducible refine Below.drew ?_))))) | (go_at_call 53; exact Calls.ext_of_same (VA.out _ (by (repeat (first | with_reducible exact Below.rf _ | with_reducible exact World.below_ext _ _ | with_reducible refine Below.ex ?_ _ | with_reducible refine Below.al ?_ _ | with_reducible refine Below.setCell ?_ (by simp) _ | with_reducible refine Below.drew ?_))))) | (go_at_call 56; exact Calls.ext_of (SD.out _ (by (repeat (first | with_reducible exact Below.rf _ | with_reducible exact World.below_ext _ _ | with_reducible refine Below.ex ?_ _ | with_reducible refine Below.al ?_ _ | with_reducible refine Below.setCell ?_ (by simp) _ | with_reducible refine Below.drew ?_))))) | (go_at_call 44; exact Calls.ext_of_same (BS.out _ (by (repeat (first | with_reducible exact Below.rf _ | with_reducible exact World.below_ext _ _ | with_reducible refine Below.ex ?_ _ | with_reducible refine Below.al ?_ _ | with_reducible refine Below.setCell ?_ (by simp) _ | with_reducible refine Below.drew ?_))))) | (go_at_call 25; exact Calls.ext_of_same (EN.out _ (by (repeat (first | with_reducible exact Below.rf _ | with_reducible exact World.below_ext _ _ | with_reducible refine Below.ex ?_ _ | with_reducible refine Below.al ?_ _ | with_reducible refine Below.setCell ?_ (by simp) _ | with_reducible refine Below.drew ?_))))))))
    refine wpQuiet_nil ?_
    rintro _ ⟨z, rfl⟩
    go_wp2
    go_ret2
    exact ⟨rfl, Below.is_ext (by (repeat (first | with_reducible exact Below.rf _ | with_reducible exact World.below_ext _ _ | with_reducible refine Below.ex ?_ _ | with_reducible refine Below.al ?_ _ | with_reducible refine Below.setCell ?_ (by simp) _ | with_reducible refine Below.drew ?_)))⟩
  have e6 : decide ((bs : Int) + 256 ≤ q.t) = false := by simp; omega
  by_cases a7 : q.h < 0
  · have e7 : decide (q.h < 0) = true := by simp [a7]
    clear HG
    go_enter Try.func34, Try.ntmps34
    go_wp2
    (try dsimp only [List.append])
    first | with_reducible refine wp_region_ext2 (by kernel_rfl) (by kernel_rfl) ?_ | refine wp_region_ext (by kernel_rfl) (by kernel_rfl) ?_
    repeat (go_big_quiet_step ((first | (go_at_call 23; exact Calls.ext_of_same (RB.out _ (by (repeat (first | with_reducible exact Below.rf _ | with_reducible exact World.below_ext _ _ | with_reducible refine Below.ex ?_ _ | with_reducible refine Below.al ?_ _ | with_reducible refine Below.setCell ?_ (by simp) _ | with_reducible refine Below.drew ?_))))) | (go_at_call 53; exact Calls.ext_of_same (VA.out _ (by (repeat (first | with_reducible exact Below.rf _ | with_reducible exact World.below_ext _ _ | with_reducible refine Below.ex ?_ _ | with_reducible refine Below.al ?_ _ | with_reducible refine Below.setCell ?_ (by simp) _ | with_reducible refine Below.drew ?_))))) | (go_at_call 56; exact Calls.ext_of (SD.out _ (by (repeat (first | with_reducible exact Below.rf _ | with_reducible exact World.below_ext _ _ | with_reducible refine Below.ex ?_ _ | with_reducible refine Below.al ?_ _ | with_reducible refine Below.setCell ?_ (by simp) _ | with_reducible refine Below.drew ?_))))) | (go_at_call 44; exact Calls.ext_of_same (BS.out _ (by (repeat (first | with_reducible exact Below.rf _ | with_reducible exact World.below_ext _ _ | with_reducible refine Below.ex ?_ _ | with_reducible refine Below.al ?_ _ | with_reducible refine Below.setCell ?_ (by simp) _ | with_reducible refine Below.drew ?_))))) | (go_at_call 25; exact Calls.ext_of_same (EN.out _ (by (repeat (first | with_reducible exact Below.rf _ | with_reducible exact World.below_ext _ _ | with_reducible refine Below.ex ?_ _ | with_reducible refine Below.al ?_ _ | with_reducible refine Below.setCell ?_ (by simp) _ | with_reducible refine Below.drew ?_))))))))
    refine wpQuiet_nil ?_
    rintro _ ⟨z, rfl⟩
    go_wp2
    go_ret2
    exact ⟨rfl, Below.is_ext (by (repeat (first | with_reducible exact Below.rf _ | with_reducible exact World.below_ext _ _ | with_reducible refine Below.ex ?_ _ | with_reducible refine Below.al ?_ _ | with_reducible refine Below.setCell ?_ (by simp) _ | with_reducible refine Below.drew ?_)))⟩
  have e7 : decide (q.h < 0) = false := by simp; omega
  by_cases a8 : 255 < q.h
  · have e8 : decide (255 < q.h) = true := by simp [a8]
    clear HG
    go_enter Try.func34, Try.ntmps34
    go_wp2
    (try dsimp only [List.append])
    first | with_reducible refine wp_region_ext2 (by kernel_rfl) (by kernel_rfl) ?_ | refine wp_region_ext (by kernel_rfl) (by kernel_rfl) ?_
    repeat (go_big_quiet_step ((first | (go_at_call 23; exact Calls.ext_of_same (RB.out _ (by (repeat (first | with_reducible exact Below.rf _ | with_reducible exact World.below_ext _ _ | with_reducible refine Below.ex ?_ _ | with_reducible refine Below.al ?_ _ | with_reducible refine Below.setCell ?_ (by simp) _ | with_reducible refine Below.drew ?_))))) | (go_at_call 53; exact Calls.ext_of_same (VA.out _ (by (repeat (first | with_reducible exact Below.rf _ | with_reducible exact World.below_ext _ _ | with_reducible refine Below.ex ?_ _ | with_reducible refine Below.al ?_ _ | with_reducible refine Below.setCell ?_ (by simp) _ | with_reducible refine Below.drew ?_))))) | (go_at_call 56; exact Calls.ext_of (SD.out _ (by (repeat (first | with_reducible exact Below.rf _ | with_reducible exact World.below_ext _ _ | with_reducible refine Below.ex ?_ _ | with_reducible refine Below.al ?_ _ | with_reducible refine Below.setCell ?_ (by simp) _ | with_reducible refine Below.drew ?_))))) | (go_at_call 44; exact Calls.ext_of_same (BS.out _ (by (repeat (first | with_reducible exact Below.rf _ | with_reducible exact World.below_ext _ _ | with_reducible refine Below.ex ?_ _ | with_reducible refine Below.al ?_ _ | with_reducible refine Below.setCell ?_ (by simp) _ | with_reducible refine Below.drew ?_))))) | (go_at_call 25; exact Calls.ext_of_same (EN.out _ (by (repeat (first | with_reducible exact Below.rf _ | with_reducible exact World.below_ext _ _ | with_reducible refine Below.ex ?_ _ | with_reducible refine Below.al ?_ _ | with_reducible refine Below.setCell ?_ (by simp) _ | with_reducible refine Below.drew ?_))))))))
    refine wpQuiet_nil ?_
    rintro _ ⟨z, rfl⟩
    go_wp2
    go_ret2
    exact ⟨rfl, Below.is_ext (by (repeat (first | with_reducible exact Below.rf _ | with_reducible exact World.below_ext _ _ | with_reducible refine Below.ex ?_ _ | with_reducible refine Below.al ?_ _ | with_reducible refine Below.setCell ?_ (by simp) _ | with_reducible refine Below.drew ?_)))⟩
  have e8 : decide (255 < q.h) = false := by simp; omega
  by_cases a9 : q.m < 1
  · have e9 : decide (q.m < 1) = true := by simp [a9]
    clear HG
    go_enter Try.func34, Try.ntmps34
    go_wp2
    (try dsimp only [List.append])
    first | with_reducible refine wp_region_ext2 (by kernel_rfl) (by kernel_rfl) ?_ | refine wp_region_ext (by kernel_rfl) (by kernel_rfl) ?_
    repeat (go_big_quiet_step ((first | (go_at_call 23; exact Calls.ext_of_same (RB.out _ (by (repeat (first | with_reducible exact Below.rf _ | with_reducible exact World.below_ext _ _ | with_reducible refine Below.ex ?_ _ | with_reducible refine Below.al ?_ _ | with_reducible refine Below.setCell ?_ (by simp) _ | with_reducible refine Below.drew ?_))))) | (go_at_call 53; exact Calls.ext_of_same (VA.out _ (by (repeat (first | with_reducible exact Below.rf _ | with_reducible exact World.below_ext _ _ | with_reducible refine Below.ex ?_ _ | with_reducible refine Below.al ?_ _ | with_reducible refine Below.setCell ?_ (by simp) _ | with_reducible refine Below.drew ?_))))) | (go_at_call 56; exact Calls.ext_of (SD.out _ (by (repeat (first | with_reducible exact Below.rf _ | with_reducible exact World.below_ext _ _ | with_reducible refine Below.ex ?_ _ | with_reducible refine Below.al ?_ _ | with_reducible refine Below.setCell ?_ (by simp) _ | with_reducible refine Below.drew ?_))))) | (go_at_call 44; exact Calls.ext_of_same (BS.out _ (by (repeat (first | with_reducible exact Below.rf _ | with_reducible exact World.below_ext _ _ | with_reducible refine Below.ex ?_ _ | with_reducible refine Below.al ?_ _ | with_reducible refine Below.setCell ?_ (by simp) _ | with_reducible refine Below.drew ?_))))) | (go_at_call 25; exact Calls.ext_of_same (EN.out _ (by (repeat (first | with_reducible exact Below.rf _ | with_reducible exact World.below_ext _ _ | with_reducible refine Below.ex ?_ _ | with_reducible refine Below.al ?_ _ | with_reducible refine Below.setCell ?_ (by simp) _ | with_reducible refine Below.drew ?_))))))))
    refine wpQuiet_nil ?_
    rintro _ ⟨z, rfl⟩
    go_wp2
    go_ret2
    exact ⟨rfl, Below.is_ext (by (repeat (first | with_reducible exact Below.rf _ | with_reducible exact World.below_ext _ _ | with_reducible refine Below.ex ?_ _ | with_reducible refine Below.al ?_ _ | with_reducible refine Below.setCell ?_ (by simp) _ | with_reducible refine Below.drew ?_)))⟩
  have e9 : decide (q.m < 1) = false := by simp; omega
  by_cases a10 : 1048576 < q.m
  · have e10 : decide (1048576 < q.m) = true := by simp [a10]
    clear HG
    go_enter Try.func34, Try.ntmps34
    go_wp2
    (try dsimp only [List.append])
    first | with_reducible refine wp_region_ext2 (by kernel_rfl) (by kernel_rfl) ?_ | refine wp_region_ext (by kernel_rfl) (by kernel_rfl) ?_
    repeat (go_big_quiet_step ((first | (go_at_call 23; exact Calls.ext_of_same (RB.out _ (by (repeat (first | with_reducible exact Below.rf _ | with_reducible exact World.below_ext _ _ | with_reducible refine Below.ex ?_ _ | with_reducible refine Below.al ?_ _ | with_reducible refine Below.setCell ?_ (by simp) _ | with_reducible refine Below.drew ?_))))) | (go_at_call 53; exact Calls.ext_of_same (VA.out _ (by (repeat (first | with_reducible exact Below.rf _ | with_reducible exact World.below_ext _ _ | with_reducible refine Below.ex ?_ _ | with_reducible refine Below.al ?_ _ | with_reducible refine Below.setCell ?_ (by simp) _ | with_reducible refine Below.drew ?_))))) | (go_at_call 56; exact Calls.ext_of (SD.out _ (by (repeat (first | with_reducible exact Below.rf _ | with_reducible exact World.below_ext _ _ | with_reducible refine Below.ex ?_ _ | with_reducible refine Below.al ?_ _ | with_reducible refine Below.setCell ?_ (by simp) _ | with_reducible refine Below.drew ?_))))) | (go_at_call 44; exact Calls.ext_of_same (BS.out _ (by (repeat (first | with_reducible exact Below.rf _ | with_reducible exact World.below_ext _ _ | with_reducible refine Below.ex ?_ _ | with_reducible refine Below.al ?_ _ | with_reducible refine Below.setCell ?_ (by simp) _ | with_reducible refine Below.drew ?_))))) | (go_at_call 25; exact Calls.ext_of_same (EN.out _ (by (repeat (first | with_reducible exact Below.rf _ | with_reducible exact World.below_ext _ _ | with_reducible refine Below.ex ?_ _ | with_reducible refine Below.al ?_ _ | with_reducible refine Below.setCell ?_ (by simp) _ | with_reducible refine Below.drew ?_))))))))
    refine wpQuiet_nil ?_
    rintro _ ⟨z, rfl⟩
    go_wp2
    go_ret2
    exact ⟨rfl, Below.is_ext (by (repeat (first | with_reducible exact Below.rf _ | with_reducible exact World.below_ext _ _ | with_reducible refine Below.ex ?_ _ | with_reducible refine Below.al ?_ _ | with_reducible refine Below.setCell ?_ (by simp) _ | with_reducible refine Below.drew ?_)))⟩
  exact (HG.out a1 a2 rfl rfl a5 a6 a7 a8 a9 a10).elim
end Go.Proofs.Qxb6500716a
