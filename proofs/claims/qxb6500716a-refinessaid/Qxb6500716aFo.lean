/-
  floorm.New: for every argument.
-/
import Derived.Test.Qxb6500716aFn
namespace Go.Proofs.Qxb6500716a
open Go.RowKit Go.Maps
set_option linter.unusedSimpArgs false
set_option linter.unusedVariables false
set_option maxRecDepth 20000
set_option maxHeartbeats 4000000

theorem newF_any (A S P : Int) (lab : Nat → Nat) (v : Value) (l : List Int) (w : World) (hI : Ints w lab v l) : Calls Try.prog 46 #[.int .i64 (A), .int .i64 (S), .int .i64 (P), v] w (newFPost (FS.new A S P l) w) := by
  by_cases hb : A < 1 ∨ 8 < A ∨ S < 1 ∨ 12 < S ∨ P < 2 ∨ 3 < P ∨ l.length < 1 ∨ 6 < l.length
  · obtain ⟨ao, cap, rfl, hcap⟩ := hI.ex
    have hlen := hI.len
    obtain ⟨n, hn⟩ : ∃ n, l.length = n := ⟨_, rfl⟩
    rw [hn] at hcap hlen ⊢
    obtain ⟨res, hres⟩ : ∃ x, FS.new A S P l = x := ⟨_, rfl⟩
    rw [hres]
    have HBAD : Hid ((A < 1 ∨ 8 < A ∨ S < 1 ∨ 12 < S ∨ P < 2 ∨ 3 < P ∨ n < 1 ∨ 6 < n) → res = none) := fun h => by
      rw [← hres]; unfold FS.new; rw [if_pos (by rw [hn]; exact h)]
    clear hI hres
    rw [hn] at hb
    clear hn
    by_cases a1 : A < 1
    · clear hb
      have HR : Hid (res = none) := HBAD.out (by omega)
      clear HBAD
      go_enter Try.func46, Try.ntmps46
      go_wp2
      go_ret
      rw [HR.out]
      exact ⟨Below.rf _, rfl⟩
    · by_cases a2 : 8 < A
      · clear hb
        have HR : Hid (res = none) := HBAD.out (by omega)
        clear HBAD
        go_enter Try.func46, Try.ntmps46
        go_wp2
        go_ret
        rw [HR.out]
        exact ⟨Below.rf _, rfl⟩
      · by_cases a3 : S < 1
        · clear hb
          have HR : Hid (res = none) := HBAD.out (by omega)
          clear HBAD
          go_enter Try.func46, Try.ntmps46
          go_wp2
          go_ret
          rw [HR.out]
          exact ⟨Below.rf _, rfl⟩
        · by_cases a4 : 12 < S
          · clear hb
            have HR : Hid (res = none) := HBAD.out (by omega)
            clear HBAD
            go_enter Try.func46, Try.ntmps46
            go_wp2
            go_ret
            rw [HR.out]
            exact ⟨Below.rf _, rfl⟩
          · by_cases a5 : P < 2
            · clear hb
              have HR : Hid (res = none) := HBAD.out (by omega)
              clear HBAD
              go_enter Try.func46, Try.ntmps46
              go_wp2
              go_ret
              rw [HR.out]
              exact ⟨Below.rf _, rfl⟩
            · by_cases a6 : 3 < P
              · clear hb
                have HR : Hid (res = none) := HBAD.out (by omega)
                clear HBAD
                go_enter Try.func46, Try.ntmps46
                go_wp2
                go_ret
                rw [HR.out]
                exact ⟨Below.rf _, rfl⟩
              · by_cases a7 : n < 1
                · clear hb
                  have HR : Hid (res = none) := HBAD.out (by omega)
                  clear HBAD
                  go_enter Try.func46, Try.ntmps46
                  go_wp2
                  go_ret
                  rw [HR.out]
                  exact ⟨Below.rf _, rfl⟩
                · have a8 : 6 < n := by omega
                  clear hb
                  have HR : Hid (res = none) := HBAD.out (by omega)
                  clear HBAD
                  go_enter Try.func46, Try.ntmps46
                  go_wp2
                  go_ret
                  rw [HR.out]
                  exact ⟨Below.rf _, rfl⟩
  · obtain ⟨A, rfl⟩ : ∃ k : Nat, A = k := ⟨A.toNat, by omega⟩
    obtain ⟨S, rfl⟩ : ∃ k : Nat, S = k := ⟨S.toNat, by omega⟩
    obtain ⟨P, rfl⟩ : ∃ k : Nat, P = k := ⟨P.toNat, by omega⟩
    have hm : 0 ≤ ((A : Int) - 1) * (P : Int) := Int.mul_nonneg (by omega) (by omega)
    have := new_any A S P lab v l w ⟨by omega, by omega⟩ ⟨by omega, by omega⟩ ⟨by omega, by omega⟩ ⟨by omega, by omega⟩ hI (wid A P) (S + 4) (by unfold wid; omega) rfl
    have e : FS.new A S P l = (bayL A P (wid A P) (S + 4) l []).map (FS.of A P (wid A P) (S + 4)) := by
      unfold FS.new
      rw [if_neg hb]
      simp only [Int.toNat_natCast]
      rw [show ((S : Int) + 4).toNat = S + 4 by omega]
    rw [e]
    exact this
end Go.Proofs.Qxb6500716a
