/-
  The estimate: plain, and the walks.
-/
import Derived.Test.Qxb6500716aFg
namespace Go.Proofs.Qxb6500716a
open Go.RowKit Go.Maps
set_option linter.unusedSimpArgs false
set_option linter.unusedVariables false
set_option maxRecDepth 20000
set_option maxHeartbeats 4000000

def ETg (bay : Int) : List (Int × Int) → Int
  | [] => bay
  | g :: _ => g.1
def EAf (F : FS) (bay : Int) : List (Int × Int) → Nat
  | [] => 0
  | g :: l => g.2.toNat + F.dist g.1.toNat (ETg bay l).toNat + EAf F bay l
/-- The estimate at a cell and a label. -/
def FS.est (F : FS) (bay : Int) (gl : List (Int × Int)) (c j : Nat) : Nat := F.dist c (ETg bay (gl.drop j)).toNat + EAf F bay (gl.drop j)
/-- Goals that stand. -/
def FS.gok (F : FS) (gl : List (Int × Int)) : Prop := gl.length ≤ 16 ∧ ∀ p, p ∈ gl → (0 ≤ p.1 ∧ p.1 < (F.n : Int)) ∧ 0 ≤ p.2 ∧ p.2 ≤ 64
theorem ETg_bd {F : FS} {bay : Int} (hb : 0 ≤ bay ∧ bay < (F.n : Int)) : ∀ {gl : List (Int × Int)}, (∀ p, p ∈ gl → (0 ≤ p.1 ∧ p.1 < (F.n : Int)) ∧ 0 ≤ p.2 ∧ p.2 ≤ 64) → 0 ≤ ETg bay gl ∧ ETg bay gl < (F.n : Int)
  | [], _ => hb
  | g :: l, h => (h g (by simp)).1
theorem EAf_bd {F : FS} {bay : Int} (hF : FOk F) : ∀ {gl : List (Int × Int)}, (∀ p, p ∈ gl → (0 ≤ p.1 ∧ p.1 < (F.n : Int)) ∧ 0 ≤ p.2 ∧ p.2 ≤ 64) → EAf F bay gl ≤ gl.length * 1048640
  | [], _ => by simp [EAf]
  | g :: l, h => by
    have h1 := EAf_bd hF (bay := bay) (gl := l) (fun p hp => h p (by simp [hp]))
    have h2 := h g (by simp)
    have h3 := hF.le g.1.toNat (ETg bay l).toNat
    simp only [EAf, List.length_cons, Nat.add_mul, Nat.one_mul]
    omega
theorem drop_mem {α : Type} {l : List α} {j : Nat} {x : α} (h : x ∈ l.drop j) : x ∈ l := List.mem_of_mem_drop h
def etl (bay : Int) (gl : List (Int × Int)) : List Int := (List.range (gl.length + 1)).map fun j => ETg bay (gl.drop j)
def eal (F : FS) (bay : Int) (gl : List (Int × Int)) : List Int := (List.range (gl.length + 1)).map fun j => (EAf F bay (gl.drop j) : Int)
theorem etl_len (bay : Int) (gl : List (Int × Int)) : (etl bay gl).length = gl.length + 1 := by simp [etl]
theorem eal_len (F : FS) (bay : Int) (gl : List (Int × Int)) : (eal F bay gl).length = gl.length + 1 := by simp [eal]
theorem etl_at (bay : Int) (gl : List (Int × Int)) (j : Nat) (h : j ≤ gl.length) : (etl bay gl)[j]? = some (ETg bay (gl.drop j)) := by simp [etl, Nat.lt_succ_of_le h]
theorem eal_at (F : FS) (bay : Int) (gl : List (Int × Int)) (j : Nat) (h : j ≤ gl.length) : (eal F bay gl)[j]? = some (EAf F bay (gl.drop j) : Int) := by simp [eal, Nat.lt_succ_of_le h]
theorem labels_any (fb : Nat) (tv av : Value) (lab : Nat → Nat) (bay : Int) (gl : List (Int × Int)) (w : World) (ht : Ints w lab tv (etl bay gl)) : Calls Try.prog 29 #[.agg #[.pointer (some ⟨fb, 0, none⟩), tv, av]] w fun e w' => e = .returned (.int .i64 (gl.length + 1)) ∧ ∃ z, w' = w.ext z := by
  obtain ⟨ao, cap, rfl, hc⟩ := ht.ex
  have hl := ht.len
  rw [etl_len] at hl hc ⊢
  clear ht
  go_enter Try.func29, Try.ntmps29
  go_wp2
  go_ret
  refine ⟨by simp, ?_⟩
  refine Below.is_ext ?_
  repeat (first | with_reducible exact Below.rf _ | with_reducible exact World.below_ext _ _ | with_reducible refine Below.ex ?_ _ | with_reducible refine Below.al ?_ _ | with_reducible refine Below.setCell ?_ (by simp) _ | with_reducible refine Below.drew ?_)
theorem estAt_any (fb : Nat) (F : FS) (tv av : Value) (lab : Nat → Nat) (bay : Int) (gl : List (Int × Int)) (c j : Nat) (w : World) (hF : FAt w lab fb F) (hg : F.gok gl) (hb : 0 ≤ bay ∧ bay < (F.n : Int)) (ht : Ints w lab tv (etl bay gl)) (ha : Ints w lab av (eal F bay gl)) (hc : c < F.n) (hj : j ≤ gl.length) :
    Calls Try.prog 31 #[.agg #[.pointer (some ⟨fb, 0, none⟩), tv, av], .int .i64 (c), .int .i64 (j)] w fun e w' => e = .returned (.int .i64 (F.est bay gl c j)) ∧ ∃ z, w' = w.ext z := by
  obtain ⟨b1, a1, n1, k1, e1, hb1, -, q1⟩ := ht.row j _ (etl_at bay gl j hj)
  obtain ⟨b2, a2, n2, k2, e2, hb2, -, q2⟩ := ha.row j _ (eal_at F bay gl j hj)
  obtain ⟨ao1, cp1, f1, hc1⟩ := ht.ex
  obtain ⟨ao2, cp2, f2, hc2⟩ := ha.ex
  rw [e1, etl_len] at f1
  rw [e2, eal_len] at f2
  simp only [Value.slice.injEq] at f1 f2
  obtain ⟨rfl, rfl, rfl⟩ := f1
  obtain ⟨rfl, rfl, rfl⟩ := f2
  subst e1 e2
  have htb := ETg_bd hb (gl := gl.drop j) (fun p hp => hg.2 p (drop_mem hp))
  have hab := EAf_bd hF.ok (bay := bay) (gl := gl.drop j) (fun p hp => hg.2 p (drop_mem hp))
  have hgl := hg.1
  have hab2 : EAf F bay (gl.drop j) ≤ 16777216 + 1024 := by
    refine Nat.le_trans hab (Nat.le_trans (Nat.mul_le_mul_right _ (?_ : (gl.drop j).length ≤ 16)) (by omega))
    simp; omega
  unfold FS.est
  obtain ⟨t, hte⟩ : ∃ t : Nat, ETg bay (gl.drop j) = t := ⟨(ETg bay (gl.drop j)).toNat, by omega⟩
  rw [hte] at q1 htb ⊢
  rw [Int.toNat_natCast]
  have htn : t < F.n := by omega
  have D0 := hid (fun (w' : World) (h : Below w.heap.size w w') => dist_any fb F lab c t hc htn w' (hF.below h))
  have hle := hF.ok.le c t
  have hlt := hF.lt
  generalize F.dist c t = x at *
  generalize EAf F bay (gl.drop j) = y at *
  generalize gl.length = k at *
  clear hF hg ht ha hab hte hc1 hc2
  go_enter Try.func31, Try.ntmps31
  go_wp2
  first | with_reducible refine wp_region_ext2 (by kernel_rfl) (by kernel_rfl) ?_ | refine wp_region_ext (by kernel_rfl) (by kernel_rfl) ?_
  repeat (go_big_quiet_step ((go_at_call 61; exact Calls.ext_of_same (D0.out _ (by (repeat (first | with_reducible exact Below.rf _ | with_reducible exact World.below_ext _ _ | with_reducible refine Below.ex ?_ _ | with_reducible refine Below.al ?_ _ | with_reducible refine Below.setCell ?_ (by simp) _ | with_reducible refine Below.drew ?_)))))))
  refine wpQuiet_nil ?_
  rintro _ ⟨z, rfl⟩
  go_wp2
  go_ret
  refine ⟨by simp, ?_⟩
  refine Below.is_ext ?_
  repeat (first | with_reducible exact Below.rf _ | with_reducible exact World.below_ext _ _ | with_reducible refine Below.ex ?_ _ | with_reducible refine Below.al ?_ _ | with_reducible refine Below.setCell ?_ (by simp) _ | with_reducible refine Below.drew ?_)
end Go.Proofs.Qxb6500716a
